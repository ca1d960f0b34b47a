/- nest.Pack: a list's text. -/
import Derived.Test.YtljpjckklkpipaaDoorBld
namespace Go.Proofs.YtljpjckklkpipaaDoor.Pk
open Go.RowKit Wd Bld
set_option maxRecDepth 100000

/-- a slice of texts, read -/
def SlS (w : World) (v : Value) (l : List ByteArray) : Prop :=
  ∃ A c, v = .slice A l.length c ∧ l.length ≤ 4611686018427387904 ∧ (0 < l.length → ∃ b off, A = some ⟨b, off, none⟩ ∧ b < w.heap.size ∧ ∀ k s, l[k]? = some s → w.cell? ⟨b, off + k, none⟩ = some (.string s))
theorem SlS.below {w w' : World} {v : Value} {l : List ByteArray} (h : SlS w v l) (hb : Below w.heap.size w w') : SlS w' v l := by
  obtain ⟨A, c, hv, hl, h⟩ := h
  refine ⟨A, c, hv, hl, fun hp => ?_⟩
  obtain ⟨b, off, hA, hlt, hc⟩ := h hp
  exact ⟨b, off, hA, Nat.lt_of_lt_of_le hlt hb.size, fun k s hk => (hb.cell (p := ⟨b, off + k, none⟩) hlt).trans (hc k s hk)⟩
theorem SlS.own {w : World} {base : Nat} {v : Value} {l : List ByteArray} (h : w.ownsRow base 9 1 v l.length (l.map Value.string)) (hl : l.length ≤ 4611686018427387904) : SlS w v l := by
  rcases h.2 with ⟨hv, h0⟩ | ⟨g, cap, cur, hv, hg, hh, h1, h2, h3, h4⟩
  · refine ⟨none, 0, by rw [hv, h0], hl, fun hp => by omega⟩
  · refine ⟨_, cap, hv, hl, fun _ => ⟨g, 0, rfl, (Array.getElem?_eq_some_iff.1 hh).1, fun k s hk => ?_⟩⟩
    rw [cell_of_row w g _ _ _ _ hh]
    have h5 : (cur.toList.take (l.length * 1))[k]? = some (.string s) := by rw [h4, List.getElem?_map, hk]; rfl
    rw [List.getElem?_take] at h5
    split at h5
    · simpa using h5
    · cases h5

def item (s : ByteArray) : List UInt8 := (numB s.size).data.toList ++ 58 :: (s.data.toList ++ [44])
def packL (l : List ByteArray) : List UInt8 := l.flatMap item
def packB (l : List ByteArray) : ByteArray := ⟨(packL l).toArray⟩

theorem packL_take (l : List ByteArray) (k : Nat) (s : ByteArray) (hk : l[k]? = some s) : packL (l.take (k + 1)) = packL (l.take k) ++ item s := by
  unfold packL
  rw [List.take_add_one, hk, List.flatMap_append]
  simp
theorem packL_le (l : List ByteArray) (k : Nat) (s : ByteArray) (hk : l[k]? = some s) : (packL (l.take k)).length + (item s).length ≤ (packL l).length := by
  have h := packL_take l k s hk
  have h2 : packL l = packL (l.take (k + 1)) ++ packL (l.drop (k + 1)) := by
    unfold packL; rw [← List.flatMap_append, List.take_append_drop]
  rw [h2, h, List.length_append, List.length_append]
  omega
theorem item_length (s : ByteArray) : (item s).length = (numB s.size).size + s.size + 2 := by
  unfold item
  rw [List.length_append, List.length_cons, List.length_append, List.length_singleton]
  have h1 : (numB s.size).data.toList.length = (numB s.size).size := by rw [Array.length_toList]; rfl
  have h2 : s.data.toList.length = s.size := by rw [Array.length_toList]; rfl
  omega
theorem cells_item (s : ByteArray) : Lib.strCells (numB s.size ++ ⟨#[58]⟩ ++ s ++ ⟨#[44]⟩) = Lib.byteCells (item s) := by
  unfold Lib.strCells Lib.byteCells item
  congr 1
  simp [ByteArray.data_append]
theorem byteCells_append (a b : List UInt8) : Lib.byteCells (a ++ b) = Lib.byteCells a ++ Lib.byteCells b := by unfold Lib.byteCells; rw [List.map_append]
theorem byteCells_length (a : List UInt8) : (Lib.byteCells a).length = a.length := by unfold Lib.byteCells; rw [List.length_map]

theorem builder_at_below {T e : TypeId} {B b : Nat} {p : Value} {bs : List Value} {w w' : World} (h : Lib.BuilderAt T e B b p bs w) (hb : Below w.heap.size w w') : Lib.BuilderAt T e B b p bs w' := by
  have hlt := h.lt
  obtain ⟨hB, v, hh, hown, hne⟩ := h
  exact ⟨hB, v, (hb.block b hlt).trans hh, own_below hown hb, hne⟩
theorem builder_below {T e : TypeId} {B b : Nat} {bs : List Value} {w w' : World} (h : Lib.IsBuilder T e B b bs w) (hb : Below w.heap.size w w') : Lib.IsBuilder T e B b bs w' := h.imp (builder_at_below · hb) (builder_at_below · hb)
theorem size_item (s : ByteArray) : (numB (s.size : Int) ++ ⟨#[58]⟩ ++ s ++ ⟨#[44]⟩ : ByteArray).size = (numB (s.size : Int)).size + s.size + 2 := by
  simp [ByteArray.size_append]
  have h1 : (⟨#[58]⟩ : ByteArray).size = 1 := rfl
  have h2 : (⟨#[44]⟩ : ByteArray).size = 1 := rfl
  omega

theorem pack_any (v : Value) (l : List ByteArray) (w : World) (hG : GPow w) (h : SlS w v l) (hlen : (packL l).length ≤ 140737488355328) :
    Calls Tryd.prog 101 #[v] w fun e w' => e = .returned (.string (packB l)) ∧ Below w.heap.size w w' := by
  obtain ⟨A, c, rfl, hl, hc⟩ := h
  have hb0 : Lib.IsBuilder 231 5 w.heap.size w.heap.size [] (w.alloc (.cells #[.pointer none, .slice none 0 0] 231)) :=
    .inl ⟨Nat.le_refl _, .slice none 0 0, heap_alloc_new _ _, World.ownsRow_nil _ _ _ _, by simp [Value.ownBlock]⟩
  have hB0 : Below w.heap.size w (w.alloc (.cells #[.pointer none, .slice none 0 0] 231)) := (Below.refl _ w).alloc (Nat.le_refl _) _
  have HC := Lib.hid hc
  clear hc
  go_enter Tryd.func101, Tryd.ntmps101
  go_wp2_with fail
  go_loopw [5, 8] (fun _ i wr => ∃ k : Nat, k ≤ l.length ∧ i = .int .i64 k ∧ Lib.IsBuilder 231 5 w.heap.size w.heap.size (Lib.byteCells (packL (l.take k))) wr ∧ Below w.heap.size w wr) (fun _ i _ => l.length - (intOf i).toNat)
  case atStart => exact ⟨0, by omega, rfl, hb0, hB0⟩
  case round =>
    obtain ⟨k, hk, rfl, hbd, hB⟩ := hrel
    have HBD := Lib.hid hbd
    clear hbd hb0 hB0
    by_cases hlt : k < l.length
    · obtain ⟨b, off, rfl, hbl, hcell⟩ := HC.out (by omega)
      have hs : l[k]? = some l[k] := List.getElem?_eq_getElem hlt
      obtain ⟨s, hse⟩ : ∃ s, l[k] = s := ⟨_, rfl⟩
      rw [hse] at hs
      have c1 : wr.cell? ⟨b, off + k, none⟩ = some (.string s) := (hB.cell (p := ⟨b, off + k, none⟩) hbl).trans (hcell k s hs)
      have hle := packL_le l k s hs
      have hil := item_length s
      have hsz : (numB (s.size : Int)).size + s.size + 2 ≤ 140737488355328 := by omega
      have HT := Lib.hid (packL_take l k s hs)
      have hb2 : (Lib.byteCells (packL (l.take k))).length + ((numB (s.size : Int)).size + s.size + 2) ≤ 140737488355328 := by rw [byteCells_length]; omega
      have HS := Lib.hid hb2
      clear hcell hs hse hle hil hb2
      go_wp2_with (first
        | (go_at_call 114; refine (num_any _ _ (hG.below hB hG.lt) (by omega) (by omega)).mono ?_; rintro e w1 ⟨rfl, hb1⟩)
        | (go_at_call 130; go_must (refine (write_any w.heap.size w.heap.size (Lib.byteCells (packL (l.take k))) _ _ ?_ ?_ ?_).mono ?_)))
      · exact builder_below HBD.out hb1
      · rw [size_item]; exact HS.out
      · have := hB.size; have := hb1.size; omega
      · rintro e w2 ⟨rfl, hbd2, hb2⟩
        have HBD2 : Hid (Lib.IsBuilder 231 5 w.heap.size w.heap.size (Lib.byteCells (packL (l.take (k + 1)))) w2) := by
          rw [HT.out, byteCells_append, ← cells_item]
          exact .inr hbd2
        have hB2 : Below w.heap.size w w2 := (hB.trans (hb1.mono hB.size)).trans hb2
        clear hbd2 hb2 hb1
        go_wp2_with fail
        go_roundw
        case rel => exact ⟨k + 1, by omega, by go_num, HBD2.out, hB2⟩
        case measure => simp [intOf]; omega
    · obtain rfl : k = l.length := by omega
      have hbd := HBD.out
      rw [List.take_length] at hbd
      have HB2 := Lib.hid hbd
      clear hbd
      go_wp2_with (go_at_call 131; refine (Tryd.Builder_String_any w.heap.size w.heap.size _ _ HB2.out hB.size).mono ?_; rintro e w1 ⟨rfl, hb1⟩)
      go_ret
      exact ⟨rfl, hB.trans hb1⟩
end Go.Proofs.YtljpjckklkpipaaDoor.Pk
