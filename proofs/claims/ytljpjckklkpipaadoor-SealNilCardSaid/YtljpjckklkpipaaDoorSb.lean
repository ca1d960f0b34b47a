/- Walks of package seal: a ring's tags. -/
import Derived.Test.YtljpjckklkpipaaDoorSa
import Derived.Test.YtljpjckklkpipaaDoorBs
import Derived.Lib.ConvBytes
import Derived.Laws.IdiomStrings
import Derived.Laws.Cover3
import Derived.Stop.BytesEq
namespace Go.Proofs.YtljpjckklkpipaaDoor.Sb
open Go.RowKit Wd Bld Pk Sa Bl Bk Bt
set_option maxRecDepth 100000
set_option linter.unusedSimpArgs false

/-- sixteen bytes as cells -/
def bL (t : ByteArray) : List Value := t.data.toList.map Extern.Stop.cell
def bA (t : ByteArray) : Array Value := (bL t).toArray
theorem bL_length (t : ByteArray) : (bL t).length = t.size := by
  unfold bL
  rw [List.length_map, Array.length_toList]
  rfl
theorem bA_size (t : ByteArray) : (bA t).size = t.size := by
  show (bL t).toArray.size = t.size
  rw [List.size_toArray, bL_length]
theorem bA_cells (t : ByteArray) : (bA t).all (·.oneCell') = true := by
  unfold bA bL
  rw [Array.all_eq_true_iff_forall_mem]
  intro x hx
  simp at hx
  obtain ⟨b, _, rfl⟩ := hx
  rfl
theorem bL_get (t : ByteArray) (j : Nat) (hj : j < t.size) : (bL t)[j]? = some (.int .u8 ((t.data.toList.getD j 0).toNat : Int)) := by
  have h1 : j < t.data.toList.length := by rw [Array.length_toList]; exact hj
  unfold bL
  rw [List.getElem?_map, List.getElem?_eq_getElem h1, List.getD, List.getElem?_eq_getElem h1]
  rfl
def zero16 : ByteArray := ⟨#[0, 0, 0, 0, 0, 0, 0, 0, 0, 0, 0, 0, 0, 0, 0, 0]⟩
theorem bA_zero : bA zero16 = #[.int .u8 0, .int .u8 0, .int .u8 0, .int .u8 0, .int .u8 0, .int .u8 0, .int .u8 0, .int .u8 0, .int .u8 0, .int .u8 0, .int .u8 0, .int .u8 0, .int .u8 0, .int .u8 0, .int .u8 0, .int .u8 0] := rfl
theorem size206 : (Tryd.prog.info? 206).map (·.size) = some 16 := by kernel_rfl
theorem sumB_size (k t : ByteArray) : (sumB k t).size = 32 := by
  unfold sumB
  show ((outB (sumH (txt k) (txt t))).map UInt8.ofNat).toArray.size = 32
  simp [outB]
/-- a party's tag of a text -/
def tagB (seed : ByteArray) (g n : Int) (text : ByteArray) : ByteArray := (sumB (sumB seed (nameB g n)) text).extract 0 16
theorem tagB_size (seed : ByteArray) (g n : Int) (text : ByteArray) : (tagB seed g n text).size = 16 := by
  unfold tagB
  rw [ByteArray.size_extract, sumB_size]
  rfl
/-- what stamp tells -/
def stampT (r : Option ByteArray) (g n : Int) (text : ByteArray) : ByteArray × Int :=
  if isP g n then (match r with | none => (zero16, 7) | some seed => (tagB seed g n text, 0)) else (zero16, 1)
theorem stampT_size (r : Option ByteArray) (g n : Int) (text : ByteArray) : (stampT r g n text).1.size = 16 := by
  unfold stampT
  split
  · cases r
    · rfl
    · exact tagB_size _ _ _ _
  · rfl
/-- a ring, or none -/
def RingAt (w : World) (v : Value) (r : Option ByteArray) : Prop :=
  match r with
  | none => v = .pointer none
  | some seed => ∃ rb, v = .pointer (some ⟨rb, 0, none⟩) ∧ w.cell? ⟨rb, 0, none⟩ = some (.string seed) ∧ rb < w.heap.size ∧ seed.size ≤ 32
theorem RingAt.below {w w' : World} {v : Value} {r : Option ByteArray} (h : RingAt w v r) (hb : Below w.heap.size w w') : RingAt w' v r := by
  cases r with
  | none => exact h
  | some seed =>
    obtain ⟨rb, h1, h2, h3, h4⟩ := h
    exact ⟨rb, h1, (hb.cell (p := ⟨rb, 0, none⟩) h3).trans h2, Nat.lt_of_lt_of_le h3 hb.size, h4⟩
theorem Blk.row {w : World} {g : Nat} {t : TypeId} {cs : Array Value} (h : Blk w g t cs) (c' : Array Value) : Blk (w.setRow g c') g t c' := by
  unfold Blk at h ⊢
  simp [World.setRow, Array.getElem?_modify, h]
theorem grown_row (w : World) (b : Nat) (c : Array Value) : w.grownBy (w.setRow b c) (some b) :=
  ⟨rfl, rfl, rfl, by simp [World.setRow], fun k _ hk => by
    have h1 : ¬ b = k := fun e => hk (by rw [e])
    simp [World.setRow, Array.getElem?_modify, h1]⟩
theorem results_cell_slot {P : Program} {fn : Func} {p q : Tmp} {ty : TypeId} (h : fn.results = #[.cell p ty, .tmp q]) (tmps : Array Value) (w : World) (g : Nat) (t : TypeId) (cs : Array Value) (fr : Nat × Nat) (d : TypeDesc)
    (hp : tmps.getD p undef = .pointer (some ⟨g, 0, none⟩)) (hg : w.heap[g]? = some (.cells cs t fr))
    (hu : P.underlying ty = some d) (hd : (match d with | .struct _ | .array _ _ => true | _ => false) = true) (hi : (P.info? ty).map (·.size) = some cs.size) :
    (results fn tmps).run P w = .ok (.tuple #[.agg cs, tmps.getD q undef]) w := by
  have hp' : tmps[p]?.getD undef = .pointer (some ⟨g, 0, none⟩) := by simpa using hp
  simp [results, h, hp', asAddr, run_loadVar_row w g t ty cs fr d hg hu hd hi]
theorem res112 : Tryd.f112.results = #[.cell 6 206, .tmp 7] := by kernel_rfl

/-- behind the stamp's cells: what the call keeps -/
def KS (w : World) (cs : Array Value) (w' : World) : Prop := Blk w' (w.heap.size + 1) 206 cs ∧ Below w.heap.size w w'
theorem KS.new (w : World) (o : Obj) (cs : Array Value) : KS w cs ((w.alloc o).alloc (.cells cs 206)) := by
  refine ⟨?_, ((Below.refl _ w).alloc (Nat.le_refl _) _).alloc (by simp) _⟩
  have := Blk.new (w.alloc o) 206 cs
  simpa using this
theorem KS.step {w w1 w2 : World} {cs : Array Value} (h : KS w cs w1) (hb : Below w1.heap.size w1 w2) : KS w cs w2 := ⟨h.1.below hb h.1.lt, h.2.trans (hb.mono h.2.size)⟩
theorem KS.row {w w1 : World} {cs : Array Value} (h : KS w cs w1) (c' : Array Value) : KS w c' (w1.setRow (w.heap.size + 1) c') :=
  ⟨Blk.row h.1 c', h.2.trans (grown_new (grown_row _ _ _) (by omega) h.2.size)⟩
theorem stamp_no (rv : Value) (g n : Int) (text : ByteArray) (w : World) (h : isP g n = false) :
    Calls Tryd.prog 112 #[rv, .agg #[.int .i64 g, .int .i64 n], .string text] w fun e w' => e = .returned (.tuple #[.agg (bA zero16), .int .i64 1]) ∧ Below w.heap.size w w' := by
  have hk := KS.new w (.cells #[.int .i64 g, .int .i64 n] 103) (bA zero16)
  rw [bA_zero] at hk ⊢
  have HK := Lib.hid hk
  clear hk
  go_enter Tryd.func112, Tryd.ntmps112
  go_wp2_with (first
    | (go_at_call 71; (with_reducible refine (name_no _ _ _ h).mono ?_); rintro e w1 ⟨rfl, hb1⟩; have hk1 := Lib.hid (HK.out.step hb1); clear hb1)
    | (refine wpList_store_rowTo rfl 206 _ _ rfl rfl (w.heap.size + 1) (bA zero16) rfl rfl 206 _ hk1.out.1 size206 rfl (bA_cells _) ?_))
  have hk2 := hk1.out.row (bA zero16)
  (try simp only [Exit.inBlock, Exit.then])
  refine bodyPost_ret (results_cell_slot res112 _ _ (w.heap.size + 1) 206 (bA zero16) (0, 0) _ rfl hk2.1 Tryd.underlying206 rfl size206) rfl ⟨rfl, hk2.2⟩
theorem stamp_nil (g n : Int) (text : ByteArray) (w : World) (h : isP g n = true) (hG : GPow w) :
    Calls Tryd.prog 112 #[.pointer none, .agg #[.int .i64 g, .int .i64 n], .string text] w fun e w' => e = .returned (.tuple #[.agg (bA zero16), .int .i64 7]) ∧ Below w.heap.size w w' := by
  have hk := KS.new w (.cells #[.int .i64 g, .int .i64 n] 103) (bA zero16)
  have hG1 := hG.below hk.2 hG.lt
  have HG1 := Lib.hid hG1
  rw [bA_zero] at hk ⊢ HG1
  have HK := Lib.hid hk
  clear hk hG1
  go_enter Tryd.func112, Tryd.ntmps112
  go_wp2_with (first
    | (go_at_call 71; (with_reducible refine (name_yes _ _ _ h ?_).mono ?_); (exact HG1.out); rintro e w1 ⟨rfl, hb1⟩; have hk1 := Lib.hid (HK.out.step hb1); clear hb1)
    | (refine wpList_store_rowTo rfl 206 _ _ rfl rfl (w.heap.size + 1) (bA zero16) rfl rfl 206 _ hk1.out.1 size206 rfl (bA_cells _) ?_))
  have hk2 := hk1.out.row (bA zero16)
  (try simp only [Exit.inBlock, Exit.then])
  refine bodyPost_ret (results_cell_slot res112 _ _ (w.heap.size + 1) 206 (bA zero16) (0, 0) _ rfl hk2.1 Tryd.underlying206 rfl size206) rfl ⟨rfl, hk2.2⟩
/-- the bytes of a converted text, whole -/
theorem bytes_range (w : World) (t : ByteArray) : (Lib.bytesWorld w 5 t).rangeAt w.heap.size 0 (bL t) := fun j v hj => by
  have h1 : j < t.size := by
    have := (List.getElem?_eq_some_iff.1 hj).1
    rwa [bL_length] at this
  rw [Nat.zero_add, Lib.bytesWorld_cell w _ t j h1, ← hj, bL_get t j h1]
theorem bytes_below (w : World) (e : TypeId) (t : ByteArray) : Below w.heap.size w (Lib.bytesWorld w e t) :=
  ⟨rfl, rfl, rfl, by rw [Lib.bytesWorld_size]; omega, fun k hk => Lib.bytesWorld_at_old w e t k hk⟩
theorem tag_sizes (t : ByteArray) (h : t.size = 16) : (Tryd.prog.info? 206).map (·.size) = some (bL t).length ∧ (Tryd.prog.info? 206).map (·.size) = some (bL t).toArray.size ∧
    (#[.int .u8 0, .int .u8 0, .int .u8 0, .int .u8 0, .int .u8 0, .int .u8 0, .int .u8 0, .int .u8 0, .int .u8 0, .int .u8 0, .int .u8 0, .int .u8 0, .int .u8 0, .int .u8 0, .int .u8 0, .int .u8 0] : Array Value).size = (bL t).toArray.size := by
  have h1 : (bL t).length = 16 := (bL_length t).trans h
  have h2 : (bL t).toArray.size = 16 := by rw [List.size_toArray, h1]
  rw [h1, h2]
  exact ⟨size206, size206, rfl⟩
set_option maxHeartbeats 1000000 in
theorem stamp_ring (rb : Nat) (seed : ByteArray) (g n : Int) (text : ByteArray) (w : World) (h : isP g n = true) (hG : GPow w) (hL : GBl w) (hr : w.cell? ⟨rb, 0, none⟩ = some (.string seed)) (hrb : rb < w.heap.size) (hs : seed.size ≤ 32) (ht : text.size ≤ 140737488355328) :
    Calls Tryd.prog 112 #[.pointer (some ⟨rb, 0, none⟩), .agg #[.int .i64 g, .int .i64 n], .string text] w fun e w' => e = .returned (.tuple #[.agg (bA (tagB seed g n text)), .int .i64 0]) ∧ Below w.heap.size w w' := by
  have hk := KS.new w (.cells #[.int .i64 g, .int .i64 n] 103) (bA zero16)
  have hG1 := hG.below hk.2 hG.lt
  have HG1 := Lib.hid hG1
  rw [bA_zero] at hk HG1
  have HK := Lib.hid hk
  have hx : ∃ key, sumB seed (nameB g n) = key ∧ key.size = 32 ∧ ∃ sm, sumB key text = sm ∧ sm.size = 32 ∧ ∃ tg, tagB seed g n text = tg ∧ sm.extract 0 16 = tg ∧ tg.size = 16 :=
    ⟨_, rfl, sumB_size _ _, _, rfl, sumB_size _ _, _, rfl, rfl, tagB_size _ _ _ _⟩
  obtain ⟨key, hkey, hks, sm, hsm, hsms, tg, htg, hex, htgs⟩ := hx
  rw [htg]
  have HS1 : Hid (∀ w, GBl w → Calls Tryd.prog 108 #[.string seed, .string (nameB g n)] w fun e w' => e = .returned (.tuple #[.string key, .int .i64 0]) ∧ Below w.heap.size w w') :=
    Lib.hid (fun w hg => by rw [← hkey]; exact sum_short seed (nameB g n) w hs hg (by have := nameB_size g n h; omega))
  have HS2 : Hid (∀ w, GBl w → Calls Tryd.prog 108 #[.string key, .string text] w fun e w' => e = .returned (.tuple #[.string sm, .int .i64 0]) ∧ Below w.heap.size w w') :=
    Lib.hid (fun w hg => by rw [← hsm]; exact sum_short key text w (by omega) hg ht)
  have HL := Lib.hid hL
  have HR := Lib.hid hr
  have HT := Lib.hid htgs
  have HEX := Lib.hid hex
  have hfb : Hid (bL tg = (bA tg).toList) := Lib.hid (by unfold bA; rfl)
  clear hkey hsm htg hex hL hr hk hG1 htgs
  have HN := Lib.hid (name_yes g n ((w.alloc (.cells #[.int .i64 g, .int .i64 n] 103)).alloc (.cells #[.int .u8 0, .int .u8 0, .int .u8 0, .int .u8 0, .int .u8 0, .int .u8 0, .int .u8 0, .int .u8 0, .int .u8 0, .int .u8 0, .int .u8 0, .int .u8 0, .int .u8 0, .int .u8 0, .int .u8 0, .int .u8 0] 206)) h HG1.out)
  generalize nameB g n = nm at HS1 HN
  go_enter Tryd.func112, Tryd.ntmps112
  go_wp2_with (go_at_call 71; (with_reducible refine HN.out.mono ?_); rintro e w1 ⟨rfl, hb1⟩; have hk1 := HK.out.step hb1; have HK1 := Lib.hid hk1; have hr1 : w1.cell? ⟨rb, 0, none⟩ = some (.string seed) := (hk1.2.cell (p := ⟨rb, 0, none⟩) hrb).trans HR.out; have HL1 := Lib.hid (HL.out.below hk1.2 HL.out.lt); clear hb1 hk1)
  go_wp2_with (first
    | (go_at_call 108; (with_reducible refine (HS1.out _ HL1.out).mono ?_); rintro e w2 ⟨rfl, hb2⟩; have HK2 := Lib.hid (HK1.out.step hb2); have HL2 := Lib.hid (HL1.out.below hb2 HL1.out.lt); clear hb2)
    | (go_at_call 108; (with_reducible refine (HS2.out _ HL2.out).mono ?_); rintro e w3 ⟨rfl, hb3⟩; have hk3 := HK2.out.step hb3; clear hb3
       have hconv := Lib.run_convert_string_bytes (P := Tryd.prog) w3 9 209 5 (sm.extract 0 16) Tryd.underlying9 Tryd.underlying209 Tryd.underlying5
       have hk4 := hk3.step (bytes_below w3 5 (sm.extract 0 16))
       have hrg := bytes_range w3 (sm.extract 0 16)
       have hat := fun w' => run_arrayAt (P := Tryd.prog) w' 206 5 16 (some ⟨w3.heap.size, 0, none⟩) 16 (grownCap w3 16 0 5) Tryd.underlying206 (Nat.le_refl _)
       have HRG := Lib.hid hrg
       have HK4 := Lib.hid hk4
       have HT3 := Lib.hid (tag_sizes (sm.extract 0 16) (by rw [HEX.out]; exact HT.out))
       clear hrg hk4 hk3)
    | simp only [hat]
    | (refine wpList_load_mid rfl 206 _ rfl w3.heap.size 0 rfl (bL (sm.extract 0 16)) _ HRG.out Tryd.underlying206 rfl HT3.out.1 ?_)
    | (refine wpList_store_rowTo rfl 206 _ _ rfl rfl (w.heap.size + 1) (bL (sm.extract 0 16)).toArray rfl rfl 206 _ HK4.out.1 HT3.out.2.1 HT3.out.2.2 (bA_cells _) ?_))
  have hk5 := HK4.out.row (bL (sm.extract 0 16)).toArray
  have hsA := HT3.out.2.1
  obtain rfl := HEX.out
  (try simp only [Exit.inBlock, Exit.then])
  refine bodyPost_ret (results_cell_slot res112 _ _ (w.heap.size + 1) 206 (bA (sm.extract 0 16)) (0, 0) _ rfl hk5.1 Tryd.underlying206 rfl hsA) rfl ⟨rfl, hk5.2⟩
theorem stamp_any (rv : Value) (r : Option ByteArray) (g n : Int) (text : ByteArray) (w : World) (hG : GPow w) (hL : GBl w) (hr : RingAt w rv r) (ht : r = none ∨ text.size ≤ 140737488355328) :
    Calls Tryd.prog 112 #[rv, .agg #[.int .i64 g, .int .i64 n], .string text] w fun e w' => e = .returned (.tuple #[.agg (bA (stampT r g n text).1), .int .i64 (stampT r g n text).2]) ∧ Below w.heap.size w w' := by
  unfold stampT
  cases h : isP g n with
  | false => exact stamp_no rv g n text w h
  | true =>
    cases r with
    | none =>
      have hv : rv = .pointer none := hr
      subst hv
      exact stamp_nil g n text w h hG
    | some seed =>
      obtain ⟨rb, rfl, h2, h3, h4⟩ := hr
      exact stamp_ring rb seed g n text w h hG hL h2 h3 h4 (by simpa using ht)
end Go.Proofs.YtljpjckklkpipaaDoor.Sb
