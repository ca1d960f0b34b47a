/- Walks of package table: Text. -/
import Derived.Test.YtljpjckklkpipaaDoorTdo
import Derived.Test.YtljpjckklkpipaaDoorPk
import Derived.Lib.ItoaLen
namespace Go.Proofs.YtljpjckklkpipaaDoor.Tw
open Go.RowKit Wd Tl Ck Bld Pk
set_option maxRecDepth 100000

/-- the rows as one list of texts -/
def flat (rows : List (ByteArray × ByteArray)) : List ByteArray := rows.flatMap fun r => [r.1, r.2]
theorem flat_length (rows : List (ByteArray × ByteArray)) : (flat rows).length = rows.length * 2 := by
  induction rows with
  | nil => rfl
  | cons x rows ih => unfold flat at ih ⊢; rw [List.flatMap_cons, List.length_append, ih]; simp; omega
theorem flat_take (rows : List (ByteArray × ByteArray)) (k : Nat) (r : ByteArray × ByteArray) (hk : rows[k]? = some r) : flat (rows.take (k + 1)) = flat (rows.take k) ++ [r.1, r.2] := by
  unfold flat
  rw [List.take_add_one, hk, List.flatMap_append]
  simp
/-- keys and values are short -/
def Fine (rows : List (ByteArray × ByteArray)) : Prop := ∀ r ∈ rows, 1 ≤ r.1.size ∧ r.1.size ≤ 16 ∧ r.2.size ≤ 64
theorem Fine.short {rows : List (ByteArray × ByteArray)} (h : Fine rows) : Short rows := fun r hr => (h r hr).2.2
theorem numB_le (n : Nat) (h : n ≤ 9223372036854775807) : (numB n).size ≤ 21 := Lib.itoa_length_le n (by omega) (by omega)
theorem packL_bound (m : Nat) (hm : m ≤ 9223372036854775807) : ∀ l : List ByteArray, (∀ s ∈ l, s.size ≤ m) → (packL l).length ≤ l.length * (m + 23)
  | [], _ => by simp [packL]
  | s :: l, h => by
    have ih := packL_bound m hm l (fun x hx => h x (by simp [hx]))
    have h1 := h s (by simp)
    have h2 := numB_le s.size (by omega)
    have h3 := item_length s
    unfold packL at ih ⊢
    rw [List.flatMap_cons, List.length_append, List.length_cons, Nat.add_mul]
    omega
theorem flat_bound {rows : List (ByteArray × ByteArray)} (h : Fine rows) (h16 : rows.length ≤ 16) : (packL (flat rows)).length ≤ 140737488355328 := by
  have h1 := packL_bound 64 (by omega) (flat rows) (fun s hs => by
    unfold flat at hs
    rw [List.mem_flatMap] at hs
    obtain ⟨r, hr, hs⟩ := hs
    have := h r hr
    simp at hs
    rcases hs with rfl | rfl <;> omega)
  rw [flat_length] at h1
  omega
theorem info9 : (Tryd.prog.info? 9).map (fun i => (i.zero, i.size, i.bytes)) = some (some (.string ⟨#[]⟩), 1, 16) := by kernel_rfl
theorem two_lit (w : World) (a b : ByteArray) (j : Nat) (u' : Value) (hj : [Value.string a, Value.string b][j]? = some u') :
    (w.alloc (.cells #[.string a, .string b] 9)).cell? ((⟨w.heap.size, 0, none⟩ : Addr).add j) = some u' := by
  rw [Addr.add_lit]
  match j, hj with
  | 0, hj => simp at hj; subst hj; simp
  | 1, hj => simp at hj; subst hj; simp

def TRel (rows : List (ByteArray × ByteArray)) (w : World) (v i : Value) (wr : World) : Prop :=
  ∃ k : Nat, k ≤ rows.length ∧ i = .int .i64 k ∧ wr.ownsRow w.heap.size 9 1 v (k * 2) ((flat (rows.take k)).map Value.string) ∧ Below w.heap.size w wr

theorem text_any (tb : Nat) (v0 : Value) (g : Option Nat) (rows : List (ByteArray × ByteArray)) (w : World) (h : Tab w tb v0 g rows) (hF : Fine rows) (hG : GPow w) :
    Calls Tryd.prog 44 #[.pointer (some ⟨tb, 0, none⟩)] w fun e w' => e = .returned (.string (packB (flat rows))) ∧ Below w.heap.size w w' := by
  obtain ⟨i0, hi0, hz0, hz1, hz2⟩ := info_parts info9
  have hbd := flat_bound hF h.few
  have h16 := h.few
  obtain ⟨A, c, rfl⟩ := h.form
  have hc := h.cell
  go_enter Tryd.func44, Tryd.ntmps44
  go_wp2_with fail
  go_loopw [3, 5, 13] (fun v _ i wr => TRel rows w v i wr) (fun _ _ i _ => rows.length - (intOf i).toNat)
  case atStart => exact ⟨0, by omega, rfl, World.ownsRow_nil _ _ _ _, Below.refl _ _⟩
  case round =>
    obtain ⟨k, hk, rfl, hown, hB⟩ := hrel
    by_cases hlt : k < rows.length
    · obtain ⟨b, cap, hg, hv, hbl, _, _, hcell⟩ := h.at_ hlt
      injection hv with hA hn2 hc2
      subst hA
      have hr : rows[k]? = some rows[k] := List.getElem?_eq_getElem hlt
      obtain ⟨⟨rk, rv⟩, hrr⟩ : ∃ r, rows[k] = r := ⟨_, rfl⟩
      rw [hrr] at hr
      obtain ⟨e1, e2, _⟩ := hcell _ _ hr
      have d1 : wr.cell? ⟨b, k * 2, none⟩ = some (.string rk) := (hB.cell (p := ⟨b, _, none⟩) hbl).trans e1
      have d2 : wr.cell? ⟨b, k * 2 + 1, none⟩ = some (.string rv) := (hB.cell (p := ⟨b, _, none⟩) hbl).trans e2
      have HT := Lib.hid (flat_take rows k (rk, rv) hr)
      have hsz := hB.size
      have s1 : Hid (∀ x ∈ [Value.string rk, Value.string rv], x.oneCell' = true) := fun x hx => by simp at hx; rcases hx with rfl | rfl <;> rfl
      clear hr hrr e1 e2 hcell hn2 hc2 hg hc
      go_wp2_with (at_builtin; refine wpList_append_own _ rfl _ _ 93 rfl w.heap.size 9 i0 _ 1 16 Tryd.underlying93 hi0 hz0 hz1 hz2 rfl (by decide) _ _ _ rfl ((hown.alloc _).alloc _) ⟨wr.heap.size + 1, 0, none⟩ 2 2 [.string rk, .string rv] rfl rfl ?c1 s1.out ?c3 ?c4 ?c5 ?_)
      case c3 => unfold maxLen; omega
      case c4 => omega
      case c5 => (try simp); omega
      intro v' w2 hown2 hg2 _
      have hB2 : Below w.heap.size w w2 := below_grown ((hB.alloc hsz _).alloc (by simp; omega) _) ((hown.alloc _).alloc _) hg2 (Nat.le_refl _) (by simp; omega)
      have HO : Hid (w2.ownsRow w.heap.size 9 1 v' ((k + 1) * 2) ((flat (rows.take (k + 1))).map Value.string)) := by
        rw [HT.out, List.map_append, Nat.add_mul]; exact hown2
      clear hown2 hown hg2
      go_wp2_with fail
      go_roundw
      case rel => exact ⟨k + 1, by omega, by go_num, HO.out, hB2⟩
      case measure => simp [intOf]; omega
    · obtain rfl : k = rows.length := by omega
      rw [List.take_length] at hown
      have hS : SlS wr _ (flat rows) := SlS.own (by rw [flat_length]; exact hown) (by rw [flat_length]; omega)
      clear hown
      go_wp2_with (go_at_call 101; refine (pack_any _ (flat rows) _ (hG.below hB hG.lt) hS hbd).mono ?_; rintro e w1 ⟨rfl, hb1⟩)
      go_ret
      exact ⟨rfl, hB.trans (hb1.mono hB.size)⟩
end Go.Proofs.YtljpjckklkpipaaDoor.Tw
