/- Walks of package seal: Tag, Sign, Check. -/
import Derived.Test.YtljpjckklkpipaaDoorSb
import Derived.BigQuiet
namespace Go.Proofs.YtljpjckklkpipaaDoor.Sc
open Go.RowKit Wd Bld Pk Sa Sb Bl Bk Bt
set_option maxRecDepth 100000
set_option linter.unusedSimpArgs false

theorem bA_is (t : ByteArray) (h : t.size = 16) : (Tryd.prog.info? 206).map (·.size) = some (bA t).size := by
  rw [bA_size, h]
  exact size206
theorem bA_old (t : ByteArray) (h : t.size = 16) : (#[.int .u8 0, .int .u8 0, .int .u8 0, .int .u8 0, .int .u8 0, .int .u8 0, .int .u8 0, .int .u8 0, .int .u8 0, .int .u8 0, .int .u8 0, .int .u8 0, .int .u8 0, .int .u8 0, .int .u8 0, .int .u8 0] : Array Value).size = (bA t).size := by
  rw [bA_size, h]
  rfl
theorem back_is (t : ByteArray) (h : t.size = 16) (w : World) (b : Nat) (hb : Blk w b 206 (bA t)) :
    (convert 209 9 (.slice (some ⟨b, 0, none⟩) 16 16)).run Tryd.prog w = .ok (.string t) w := by
  have hl : t.data.toList.length = 16 := by rw [Array.length_toList]; exact h
  have h1 := run_convert_bytes_back (P := Tryd.prog) w 209 9 5 ⟨b, 0, none⟩ 16 t.data.toList Tryd.underlying209 Tryd.underlying5 Tryd.underlying9 (fun j hj => by
    rw [Addr.add_mid, Nat.zero_add, Blk.cell hb j]
    unfold bA
    rw [List.getElem?_toArray]
    have hj' : j < t.size := by rw [hl] at hj; omega
    rw [bL_get t j hj', List.getD, List.getElem?_eq_getElem hj]
    rfl)
  rw [hl] at h1
  exact h1
theorem row_new {B : Nat} {w w1 : World} (hb : Below B w w1) (t : TypeId) (cs c' : Array Value) (hB : B ≤ w1.heap.size) : Below B w ((w1.alloc (.cells cs t)).setRow w1.heap.size c') := by
  rw [World.setRow_alloc_new]
  exact hb.alloc hB _
set_option maxHeartbeats 1000000 in
theorem tag_of (rv : Value) (g n : Int) (text : ByteArray) (w : World) (tg : ByteArray) (e0 : Int) (hsz : tg.size = 16)
    (hc : Calls Tryd.prog 112 #[rv, .agg #[.int .i64 g, .int .i64 n], .string text] (w.alloc (.cells #[.int .i64 g, .int .i64 n] 103)) fun e w' =>
      e = .returned (.tuple #[.agg (bA tg), .int .i64 e0]) ∧ Below (w.alloc (.cells #[.int .i64 g, .int .i64 n] 103)).heap.size (w.alloc (.cells #[.int .i64 g, .int .i64 n] 103)) w') :
    Calls Tryd.prog 59 #[rv, .agg #[.int .i64 g, .int .i64 n], .string text] w fun e w' =>
      e = .returned (.tuple #[.string (if e0 = 0 then tg else ⟨#[]⟩), .int .i64 e0]) ∧ Below w.heap.size w w' := by
  have HC := Lib.hid hc
  have HA := Lib.hid (bA_is tg hsz)
  have HO := Lib.hid (bA_old tg hsz)
  have HZ := Lib.hid hsz
  have HB0 := Lib.hid ((Below.refl w.heap.size w).alloc (Nat.le_refl _) (.cells #[.int .i64 g, .int .i64 n] 103))
  clear hc hsz
  by_cases he : e0 = 0
  · subst he
    go_enter Tryd.func59, Tryd.ntmps59
    go_wp2_with (first
      | (go_at_call 112; (with_reducible refine HC.out.mono ?_); rintro e w1 ⟨rfl, hb1⟩; have HB1 := Lib.hid (HB0.out.trans (hb1.mono HB0.out.size)); clear hb1
         have hbk : ∀ w' : World, Blk w' w1.heap.size 206 (bA tg) → (convert 209 9 (.slice (some ⟨w1.heap.size, 0, none⟩) 16 16)).run Tryd.prog w' = .ok (.string tg) w' := fun w' hb => back_is tg HZ.out w' _ hb
         have HBK := Lib.hid hbk
         have hbk2 := HBK.out _ (Blk.row (Blk.new w1 206 #[.int .u8 0, .int .u8 0, .int .u8 0, .int .u8 0, .int .u8 0, .int .u8 0, .int .u8 0, .int .u8 0, .int .u8 0, .int .u8 0, .int .u8 0, .int .u8 0, .int .u8 0, .int .u8 0, .int .u8 0, .int .u8 0]) (bA tg))
         clear hbk)
      | simp only [hbk2]
      | (refine wpList_store_rowTo rfl 206 _ _ rfl rfl w1.heap.size (bA tg) rfl rfl 206 _ (Blk.new w1 _ _) HA.out HO.out (bA_cells _) ?_))
    go_ret2
    exact ⟨rfl, row_new HB1.out _ _ _ HB1.out.size⟩
  · rw [if_neg he]
    go_enter Tryd.func59, Tryd.ntmps59
    go_wp2_with (first
      | (go_at_call 112; (with_reducible refine HC.out.mono ?_); rintro e w1 ⟨rfl, hb1⟩; have HB1 := Lib.hid (HB0.out.trans (hb1.mono HB0.out.size)); clear hb1)
      | (refine wpList_store_rowTo rfl 206 _ _ rfl rfl w1.heap.size (bA tg) rfl rfl 206 _ (Blk.new w1 _ _) HA.out HO.out (bA_cells _) ?_))
    go_ret2
    exact ⟨rfl, row_new HB1.out _ _ _ HB1.out.size⟩
/-- what Tag tells -/
def tagT (r : Option ByteArray) (g n : Int) (text : ByteArray) : ByteArray := if (stampT r g n text).2 = 0 then (stampT r g n text).1 else ⟨#[]⟩
theorem tag_any (rv : Value) (r : Option ByteArray) (g n : Int) (text : ByteArray) (w : World) (hG : GPow w) (hL : GBl w) (hr : RingAt w rv r) (ht : r = none ∨ text.size ≤ 140737488355328) :
    Calls Tryd.prog 59 #[rv, .agg #[.int .i64 g, .int .i64 n], .string text] w fun e w' =>
      e = .returned (.tuple #[.string (tagT r g n text), .int .i64 (stampT r g n text).2]) ∧ Below w.heap.size w w' := by
  have hB : Below w.heap.size w (w.alloc (.cells #[.int .i64 g, .int .i64 n] 103)) := (Below.refl w.heap.size w).alloc (Nat.le_refl _) _
  exact tag_of rv g n text w _ _ (stampT_size r g n text) (stamp_any rv r g n text _ (hG.below hB hG.lt) (hL.below hB hL.lt) (hr.below hB) ht)
theorem size105 : (Tryd.prog.info? 105).map (·.size) = some 4 := by kernel_rfl
theorem res61 : Tryd.f61.results = #[.cell 6 105, .tmp 7] := by kernel_rfl
theorem four_cells (g n : Int) (a b : ByteArray) : (#[.int .i64 g, .int .i64 n, .string a, .string b] : Array Value).all (·.oneCell') = true := by simp [Value.oneCell']
/-- a block of the call's own, whole; what was there is there -/
def KB (w : World) (b : Nat) (t : TypeId) (cs : Array Value) (w' : World) : Prop := Blk w' b t cs ∧ Below w.heap.size w w' ∧ w.heap.size ≤ b
theorem KB.step {w w1 w2 : World} {b : Nat} {t : TypeId} {cs : Array Value} (h : KB w b t cs w1) (hb : Below w1.heap.size w1 w2) : KB w b t cs w2 := ⟨h.1.below hb h.1.lt, h.2.1.trans (hb.mono h.2.1.size), h.2.2⟩
theorem KB.row {w w1 : World} {b : Nat} {t : TypeId} {cs : Array Value} (h : KB w b t cs w1) (c' : Array Value) : KB w b t c' (w1.setRow b c') :=
  ⟨Blk.row h.1 c', h.2.1.trans (grown_new (grown_row _ _ _) h.2.2 h.2.1.size), h.2.2⟩
theorem KB.new (w : World) (o : Obj) (t : TypeId) (cs : Array Value) : KB w (w.heap.size + 1) t cs ((w.alloc o).alloc (.cells cs t)) := by
  refine ⟨?_, ((Below.refl _ w).alloc (Nat.le_refl _) _).alloc (by simp) _, by omega⟩
  have := Blk.new (w.alloc o) t cs
  simpa using this
set_option maxHeartbeats 1000000 in
theorem sign_of (rv : Value) (g n : Int) (text : ByteArray) (w : World) (tg : ByteArray) (e0 : Int)
    (hc : Calls Tryd.prog 59 #[rv, .agg #[.int .i64 g, .int .i64 n], .string text] ((w.alloc (.cells #[.int .i64 g, .int .i64 n] 103)).alloc (.cells #[.int .i64 0, .int .i64 0, .string ⟨#[]⟩, .string ⟨#[]⟩] 105)) fun e w' =>
      e = .returned (.tuple #[.string tg, .int .i64 e0]) ∧ Below ((w.alloc (.cells #[.int .i64 g, .int .i64 n] 103)).alloc (.cells #[.int .i64 0, .int .i64 0, .string ⟨#[]⟩, .string ⟨#[]⟩] 105)).heap.size ((w.alloc (.cells #[.int .i64 g, .int .i64 n] 103)).alloc (.cells #[.int .i64 0, .int .i64 0, .string ⟨#[]⟩, .string ⟨#[]⟩] 105)) w') :
    Calls Tryd.prog 61 #[rv, .agg #[.int .i64 g, .int .i64 n], .string text] w fun e w' =>
      e = .returned (.tuple #[.agg (if e0 = 0 then #[.int .i64 g, .int .i64 n, .string text, .string tg] else #[.int .i64 0, .int .i64 0, .string ⟨#[]⟩, .string ⟨#[]⟩]), .int .i64 e0]) ∧ Below w.heap.size w w' := by
  have HC := Lib.hid hc
  have HK := Lib.hid (KB.new w (.cells #[.int .i64 g, .int .i64 n] 103) 105 #[.int .i64 0, .int .i64 0, .string ⟨#[]⟩, .string ⟨#[]⟩])
  have hP0 : (w.alloc (.cells #[.int .i64 g, .int .i64 n] 103)).cell? ⟨w.heap.size, 0, none⟩ = some (.int .i64 g) := by simp
  have hP1 : (w.alloc (.cells #[.int .i64 g, .int .i64 n] 103)).cell? ⟨w.heap.size, 1, none⟩ = some (.int .i64 n) := by simp
  have hB1 : Below (w.heap.size + 1) (w.alloc (.cells #[.int .i64 g, .int .i64 n] 103)) ((w.alloc (.cells #[.int .i64 g, .int .i64 n] 103)).alloc (.cells #[.int .i64 0, .int .i64 0, .string ⟨#[]⟩, .string ⟨#[]⟩] 105)) := by
    have := (Below.refl (w.alloc (.cells #[.int .i64 g, .int .i64 n] 103)).heap.size (w.alloc (.cells #[.int .i64 g, .int .i64 n] 103))).alloc (Nat.le_refl _) (.cells #[.int .i64 0, .int .i64 0, .string ⟨#[]⟩, .string ⟨#[]⟩] 105)
    simpa using this
  have HP := Lib.hid (And.intro hP0 (And.intro hP1 hB1))
  clear hc hP0 hP1 hB1
  by_cases he : e0 = 0
  · subst he
    rw [if_pos rfl]
    go_enter Tryd.func61, Tryd.ntmps61
    go_wp2_with (first
      | (go_at_call 59; (with_reducible refine HC.out.mono ?_); rintro e w1 ⟨rfl, hb1⟩; have HK1 := Lib.hid (HK.out.step hb1)
         have hbb : Below (w.heap.size + 1) (w.alloc (.cells #[.int .i64 g, .int .i64 n] 103)) w1 := HP.out.2.2.trans (hb1.mono (by simp))
         have hp0 : w1.cell? ⟨w.heap.size, 0, none⟩ = some (.int .i64 g) := (hbb.cell (p := ⟨w.heap.size, 0, none⟩) (by show w.heap.size < _; omega)).trans HP.out.1
         have hp1 : w1.cell? ⟨w.heap.size, 1, none⟩ = some (.int .i64 n) := (hbb.cell (p := ⟨w.heap.size, 1, none⟩) (by show w.heap.size < _; omega)).trans HP.out.2.1
         clear hb1 hbb)
      | (refine wpList_store_rowTo rfl 105 _ _ rfl rfl (w.heap.size + 1) #[.int .i64 g, .int .i64 n, .string text, .string tg] rfl rfl 105 _ HK1.out.1 size105 rfl (four_cells _ _ _ _) ?_))
    have hk5 := HK1.out.row #[.int .i64 g, .int .i64 n, .string text, .string tg]
    (try simp only [Exit.inBlock, Exit.then])
    refine bodyPost_ret (results_cell_slot res61 _ _ (w.heap.size + 1) 105 #[.int .i64 g, .int .i64 n, .string text, .string tg] (0, 0) _ rfl hk5.1 Tryd.underlying105 rfl size105) rfl ⟨rfl, hk5.2.1⟩
  · rw [if_neg he]
    go_enter Tryd.func61, Tryd.ntmps61
    go_wp2_with (first
      | (go_at_call 59; (with_reducible refine HC.out.mono ?_); rintro e w1 ⟨rfl, hb1⟩; have HK1 := Lib.hid (HK.out.step hb1); clear hb1)
      | (refine wpList_store_rowTo rfl 105 _ _ rfl rfl (w.heap.size + 1) #[.int .i64 0, .int .i64 0, .string ⟨#[]⟩, .string ⟨#[]⟩] rfl rfl 105 _ HK1.out.1 size105 rfl (four_cells _ _ _ _) ?_))
    have hk5 := HK1.out.row #[.int .i64 0, .int .i64 0, .string ⟨#[]⟩, .string ⟨#[]⟩]
    (try simp only [Exit.inBlock, Exit.then])
    refine bodyPost_ret (results_cell_slot res61 _ _ (w.heap.size + 1) 105 #[.int .i64 0, .int .i64 0, .string ⟨#[]⟩, .string ⟨#[]⟩] (0, 0) _ rfl hk5.1 Tryd.underlying105 rfl size105) rfl ⟨rfl, hk5.2.1⟩
end Go.Proofs.YtljpjckklkpipaaDoor.Sc
