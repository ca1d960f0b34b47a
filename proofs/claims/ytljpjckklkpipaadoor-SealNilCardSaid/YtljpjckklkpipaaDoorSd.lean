/- Walks of package seal: Check. -/
import Derived.Test.YtljpjckklkpipaaDoorSc
import Derived.Deep.RegionHeld3
import Derived.Deep.MidRow
namespace Go.Proofs.YtljpjckklkpipaaDoor.Sc
open Go.RowKit Wd Bld Pk Sa Sb Bl Bk Bt
set_option maxRecDepth 100000
set_option linter.unusedSimpArgs false

theorem szU8 : ∀ w : World, (sizeOf 5).run Tryd.prog w = .ok 1 w := by
  intro w
  have h : (Tryd.prog.info? 5).map (·.size) = some 1 := by kernel_rfl
  obtain ⟨i, hi, hs⟩ := Option.map_eq_some_iff.1 h
  simp [sizeOf, typeInfo, hi, hs]
theorem eq_bytes (a b : ByteArray) (ha : a.size = 16) (hb : b.size = 16) (w : World) : (Op.equalIn 10000 206 (.agg (bA a)) (.agg (bA b))).run Tryd.prog w = .ok (a.data.toList == b.data.toList) w := by
  unfold bA bL
  exact run_equalIn_bytes w 9998 206 5 16 Tryd.underlying206 Tryd.underlying5 szU8 _ _ (by rw [Array.length_toList]; exact ha) (by rw [Array.length_toList]; exact hb)
theorem load_conv (w : World) (t : ByteArray) (h : t.size = 16) : (Instr.loadAt 206 (.pointer (some ⟨w.heap.size, 0, none⟩))).run Tryd.prog (Lib.bytesWorld w 5 t) = .ok (.agg (bA t)) (Lib.bytesWorld w 5 t) :=
  run_loadAt_mid _ _ _ _ _ _ (bytes_range w t) Tryd.underlying206 rfl (tag_sizes t h).1
theorem load_row (w : World) (b : Nat) (t : ByteArray) (h : t.size = 16) (hb : Blk w b 206 (bA t)) : (Instr.loadAt 206 (.pointer (some ⟨b, 0, none⟩))).run Tryd.prog w = .ok (.agg (bA t)) w :=
  run_loadAt_mid _ _ _ _ _ _ (fun j v hj => by rw [Nat.zero_add, Blk.cell hb j]; unfold bA; rw [List.getElem?_toArray]; exact hj) Tryd.underlying206 rfl (tag_sizes t h).1
theorem row_range {w : World} {b : Nat} {t : ByteArray} (hb : Blk w b 206 (bA t)) : w.rangeAt b 0 (bL t) := fun j v hj => by
  rw [Nat.zero_add, Blk.cell hb j]
  unfold bA
  rw [List.getElem?_toArray]
  exact hj
theorem beq_bytes (a b : ByteArray) : (a.data.toList == b.data.toList) = decide (a = b) := by
  rw [Bool.eq_iff_iff]
  simp
  constructor
  · intro h; cases a; cases b; simp_all
  · rintro rfl; rfl
theorem drewN_below {B : Nat} {w w1 : World} (h : Below B w w1) (n : Nat) : Below B w (w1.drewN n) := ⟨h.os, h.tape, h.output, h.size, h.block⟩
/-- what Check tells -/
def checkE (tg : ByteArray) (e0 : Int) (tg2 : ByteArray) : Int := if e0 = 0 then (if tg2 = tg then 0 else 30) else e0
def checkT (r : Option ByteArray) (g n : Int) (text tg2 : ByteArray) : Int := checkE (stampT r g n text).1 (stampT r g n text).2 tg2
set_option maxHeartbeats 8000000 in
theorem check_of (rv : Value) (g n : Int) (text tg2 : ByteArray) (w : World) (tg : ByteArray) (e0 : Int) (hsz : tg.size = 16)
    (hc : Calls Tryd.prog 112 #[rv, .agg #[.int .i64 g, .int .i64 n], .string text] (w.alloc (.cells #[.int .i64 g, .int .i64 n, .string text, .string tg2] 105)) fun e w' =>
      e = .returned (.tuple #[.agg (bA tg), .int .i64 e0]) ∧ Below (w.alloc (.cells #[.int .i64 g, .int .i64 n, .string text, .string tg2] 105)).heap.size (w.alloc (.cells #[.int .i64 g, .int .i64 n, .string text, .string tg2] 105)) w') :
    Calls Tryd.prog 62 #[rv, .agg #[.int .i64 g, .int .i64 n, .string text, .string tg2]] w fun e w' =>
      e = .returned (.int .i64 (checkE tg e0 tg2)) ∧ Below w.heap.size w w' := by
  have HC := Lib.hid hc
  have HA := Lib.hid (bA_is tg hsz)
  have HO := Lib.hid (bA_old tg hsz)
  have HZ := Lib.hid hsz
  have HB0 := Lib.hid ((Below.refl w.heap.size w).alloc (Nat.le_refl _) (.cells #[.int .i64 g, .int .i64 n, .string text, .string tg2] 105))
  have hP0 : (w.alloc (.cells #[.int .i64 g, .int .i64 n, .string text, .string tg2] 105)).cell? ⟨w.heap.size, 3, none⟩ = some (.string tg2) := by simp
  have HP := Lib.hid hP0
  clear hc hsz hP0
  by_cases he : e0 = 0
  · subst he
    have hE : checkE tg 0 tg2 = if tg2 = tg then 0 else 30 := by unfold checkE; rw [if_pos rfl]
    have HE := Lib.hid hE
    clear hE
    go_enter Tryd.func62, Tryd.ntmps62
    go_wp2_with (first
      | (go_at_call 112; (with_reducible refine HC.out.mono ?_); rintro e w1 ⟨rfl, hb1⟩; have HB1 := Lib.hid (HB0.out.trans (hb1.mono HB0.out.size))
         have hp1 : w1.cell? ⟨w.heap.size, 3, none⟩ = some (.string tg2) := (hb1.cell (p := ⟨w.heap.size, 3, none⟩) (by simp)).trans HP.out
         have HP1 := Lib.hid hp1
         have HS1 := Lib.hid (Nat.lt_of_lt_of_le (show w.heap.size < (w.alloc (.cells #[.int .i64 g, .int .i64 n, .string text, .string tg2] 105)).heap.size by simp) hb1.size)
         clear hb1 hp1)
      | (refine wpList_store_rowTo rfl 206 _ _ rfl rfl w1.heap.size (bA tg) rfl rfl 206 _ (Blk.new w1 _ _) HA.out HO.out (bA_cells _) ?_))
    rw [World.setRow_alloc_new]
    have hbk := Blk.new w1 206 (bA tg)
    have hbl := HB1.out.alloc HB1.out.size (.cells (bA tg) 206)
    have hp2 : (w1.alloc (.cells (bA tg) 206)).cell? ⟨w.heap.size, 3, none⟩ = some (.string tg2) := (((Below.refl _ w1).alloc (Nat.le_refl _) _).cell (p := ⟨w.heap.size, 3, none⟩) HS1.out).trans HP1.out
    generalize w1.alloc (.cells (bA tg) 206) = w2 at hbk hbl hp2 ⊢
    have HBL := Lib.hid hbl
    have HBK := Lib.hid hbk
    clear hbl hbk
    have hu := Tryd.underlying206
    have hi1 := (tag_sizes tg HZ.out).1
    have hS1 : w2.drew.cell? ⟨w.heap.size, 3, none⟩ = some (.string tg2) ∧ w2.drew.rangeAt w1.heap.size 0 (bL tg) ∧ Below w.heap.size w w2.drew := ⟨hp2, row_range HBK.out.drew, HBL.out.drew⟩
    by_cases h16 : tg2.size = 16
    · have hconv := Lib.run_convert_string_bytes (P := Tryd.prog) w2.drew 9 209 5 tg2 Tryd.underlying9 Tryd.underlying209 Tryd.underlying5
      rw [h16] at hconv
      have hat := fun w' => run_arrayAt (P := Tryd.prog) w' 206 5 16 (some ⟨w2.heap.size, 0, none⟩) 16 (grownCap w2.drew 16 0 5) Tryd.underlying206 (Nat.le_refl _)
      have hrg : (Lib.bytesWorld w2.drew 5 tg2).rangeAt w2.heap.size 0 (bL tg2) := bytes_range w2.drew tg2
      have hi2 := (tag_sizes tg2 h16).1
      have hbb := HBL.out.drew.trans ((bytes_below w2.drew 5 tg2).mono HBL.out.size)
      have hS2 : (Lib.bytesWorld w2.drew 5 tg2).cell? ⟨w.heap.size, 3, none⟩ = some (.string tg2) ∧ (Lib.bytesWorld w2.drew 5 tg2).rangeAt w1.heap.size 0 (bL tg) ∧ Below w.heap.size w (Lib.bytesWorld w2.drew 5 tg2) :=
        ⟨((bytes_below w2.drew 5 tg2).cell (p := ⟨w.heap.size, 3, none⟩) (Nat.lt_trans HS1.out HBK.out.lt)).trans hS1.1, row_range (HBK.out.drew.below (bytes_below _ _ _) HBK.out.lt), hbb⟩
      have heq : ∀ w : World, (Op.equalIn 10000 206 (.agg (bL tg2).toArray) (.agg (bL tg).toArray)).run Tryd.prog w = .ok (tg2.data.toList == tg.data.toList) w := eq_bytes tg2 tg h16 HZ.out
      rw [beq_bytes] at heq
      have hne : ((tg2.size : Int) != 16) = false := by rw [h16]; rfl
      have HSS := Lib.hid (And.intro hS1 hS2)
      have hc3 := hS1.1
      clear hS1 hS2 hbb
      by_cases hq : tg2 = tg
      · rw [decide_eq_true hq] at heq
        have HE2 : Hid (checkE tg 0 tg2 = 0) := Lib.hid (by rw [HE.out, if_pos hq])
        clear hq HE
        refine wp_region_held_drew (S := fun w' => w'.cell? ⟨w.heap.size, 3, none⟩ = some (.string tg2) ∧ w'.rangeAt w1.heap.size 0 (bL tg) ∧ Below w.heap.size w w') (by kernel_rfl) HSS.out.1 (fun hHeld => ?_)
        refine wpAnyH_take (i := 0) (v := .pointer (some ⟨w.heap.size, 3, none⟩)) rfl (by kernel_rfl) (by kernel_rfl) (by kernel_rfl) (fun _ _ _ h => h) (Or.inl ⟨by rfl, fun w' hw' => ?_⟩) hHeld ?_
        · obtain ⟨q1, q2, q3⟩ := hw'; go_simp
        (try simp only [Act.put, List.setIfInBounds_toArray, List.set_cons_zero, List.set_cons_succ])
        refine wpAnyH_take (i := 1) (v := .string tg2) rfl (by kernel_rfl) (by kernel_rfl) (by kernel_rfl) (fun _ _ _ h => h) (Or.inl ⟨by rfl, fun w' hw' => ?_⟩) hHeld ?_
        · obtain ⟨q1, q2, q3⟩ := hw'; go_simp
        (try simp only [Act.put, List.setIfInBounds_toArray, List.set_cons_zero, List.set_cons_succ])
        refine wpAnyH_take (i := 2) (v := .int .i64 16) rfl (by kernel_rfl) (by kernel_rfl) (by kernel_rfl) (fun _ _ _ h => h) (Or.inl ⟨by rfl, fun w' hw' => ?_⟩) hHeld ?_
        · obtain ⟨q1, q2, q3⟩ := hw'; go_simp
        (try simp only [Act.put, List.setIfInBounds_toArray, List.set_cons_zero, List.set_cons_succ])
        refine wpAnyH_take (i := 3) (v := .bool false) rfl (by kernel_rfl) (by kernel_rfl) (by kernel_rfl) (fun _ _ _ h => h) (Or.inl ⟨by rfl, fun w' hw' => ?_⟩) hHeld ?_
        · obtain ⟨q1, q2, q3⟩ := hw'; go_simp
        (try simp only [Act.put, List.setIfInBounds_toArray, List.set_cons_zero, List.set_cons_succ])
        refine wpAnyH_take (i := 4) (v := .bool false) rfl (by kernel_rfl) (by kernel_rfl) (by kernel_rfl) (fun _ _ _ h => h) (Or.inl ⟨by rfl, fun w' hw' => ?_⟩) hHeld ?_
        · obtain ⟨q1, q2, q3⟩ := hw'; go_simp
        (try simp only [Act.put, List.setIfInBounds_toArray, List.set_cons_zero, List.set_cons_succ])
        refine wpAnyH_take (i := 10) (v := .agg (bL tg).toArray) rfl (by kernel_rfl) (by kernel_rfl) (by kernel_rfl) (fun _ _ _ h => h) (yieldsIf_load_mid (by rfl) _ _ rfl _ _ rfl (bL tg) _ (fun w' hw' => hw'.2.1) hu rfl hi1) hHeld ?_
        (try simp only [Act.put, List.setIfInBounds_toArray, List.set_cons_zero, List.set_cons_succ])
        refine wpAnyH_take (i := 5) (v := .pointer (some ⟨w.heap.size, 3, none⟩)) rfl (by kernel_rfl) (by kernel_rfl) (by kernel_rfl) (fun _ _ _ h => h) (Or.inl ⟨by rfl, fun w' hw' => ?_⟩) hHeld ?_
        · obtain ⟨q1, q2, q3⟩ := hw'; go_simp
        (try simp only [Act.put, List.setIfInBounds_toArray, List.set_cons_zero, List.set_cons_succ])
        refine wpAnyH_take (i := 6) (v := .string tg2) rfl (by kernel_rfl) (by kernel_rfl) (by kernel_rfl) (fun _ _ _ h => h) (Or.inl ⟨by rfl, fun w' hw' => ?_⟩) hHeld ?_
        · obtain ⟨q1, q2, q3⟩ := hw'; go_simp
        (try simp only [Act.put, List.setIfInBounds_toArray, List.set_cons_zero, List.set_cons_succ])
        refine wpAnyH_ready (rs := [7]) (by kernel_rfl) (by simp) ?_
        refine AllReadyH.cons rfl (fun K hK => ?_) AllReadyH.nil
        go_simp
        refine hK.out _ _ HSS.out.2 (fun hHeld => ?_)
        clear hK K
        refine wpAnyH_take (i := 8) (v := .pointer (some ⟨w2.heap.size, 0, none⟩)) rfl (by kernel_rfl) (by kernel_rfl) (by kernel_rfl) (fun _ _ _ h => h) (Or.inl ⟨by rfl, fun w' hw' => ?_⟩) hHeld ?_
        · (try go_simp); (try simp only [hat]); (try rfl)
        (try simp only [Act.put, List.setIfInBounds_toArray, List.set_cons_zero, List.set_cons_succ])
        refine wpAnyH_ready (rs := [9]) (by kernel_rfl) (by simp) ?_
        refine AllReadyH.cons rfl (fun K hK => ?_) AllReadyH.nil
        rw [if_pos (by rfl)]
        refine wp_load_mid _ _ rfl _ _ rfl (bL tg2) _ hrg hu rfl hi2 ?_
        refine hK.out _ _ HSS.out.2 (fun hHeld => ?_)
        clear hK K
        (try simp only [Act.put, List.setIfInBounds_toArray, List.set_cons_zero, List.set_cons_succ])
        refine wpAnyH_take (i := 11) (v := .bool false) rfl (by kernel_rfl) (by kernel_rfl) (by kernel_rfl) (fun _ _ _ h => h) (Or.inl ⟨by rfl, fun w' hw' => ?_⟩) hHeld ?_
        · (try go_simp); (try simp only [heq]); (try rfl)
        (try simp only [Act.put, List.setIfInBounds_toArray, List.set_cons_zero, List.set_cons_succ])
        refine wpAnyH_take (i := 12) (v := .bool false) rfl (by kernel_rfl) (by kernel_rfl) (by kernel_rfl) (fun _ _ _ h => h) (Or.inl ⟨by rfl, fun w' hw' => ?_⟩) hHeld ?_
        · (try go_simp)
        (try simp only [Act.put, List.setIfInBounds_toArray, List.set_cons_zero, List.set_cons_succ])
        refine wpAnyH_take (i := 13) (v := .bool false) rfl (by kernel_rfl) (by kernel_rfl) (by kernel_rfl) (fun _ _ _ h => h) (Or.inl ⟨by rfl, fun w' hw' => ?_⟩) hHeld ?_
        · (try go_simp)
        (try simp only [Act.put, List.setIfInBounds_toArray, List.set_cons_zero, List.set_cons_succ])
        refine wpAnyH_done (by kernel_rfl) ?_ _
        have hBB := HSS.out.2.2.2
        clear hHeld hrg hconv heq hc3
        go_wp2_with fail
        go_ret
        exact ⟨by rw [HE2.out]; rfl, hBB⟩
      · rw [decide_eq_false hq] at heq
        have HE2 : Hid (checkE tg 0 tg2 = 30) := Lib.hid (by rw [HE.out, if_neg hq])
        clear hq HE
        refine wp_region_held_drew (S := fun w' => w'.cell? ⟨w.heap.size, 3, none⟩ = some (.string tg2) ∧ w'.rangeAt w1.heap.size 0 (bL tg) ∧ Below w.heap.size w w') (by kernel_rfl) HSS.out.1 (fun hHeld => ?_)
        refine wpAnyH_take (i := 0) (v := .pointer (some ⟨w.heap.size, 3, none⟩)) rfl (by kernel_rfl) (by kernel_rfl) (by kernel_rfl) (fun _ _ _ h => h) (Or.inl ⟨by rfl, fun w' hw' => ?_⟩) hHeld ?_
        · obtain ⟨q1, q2, q3⟩ := hw'; go_simp
        (try simp only [Act.put, List.setIfInBounds_toArray, List.set_cons_zero, List.set_cons_succ])
        refine wpAnyH_take (i := 1) (v := .string tg2) rfl (by kernel_rfl) (by kernel_rfl) (by kernel_rfl) (fun _ _ _ h => h) (Or.inl ⟨by rfl, fun w' hw' => ?_⟩) hHeld ?_
        · obtain ⟨q1, q2, q3⟩ := hw'; go_simp
        (try simp only [Act.put, List.setIfInBounds_toArray, List.set_cons_zero, List.set_cons_succ])
        refine wpAnyH_take (i := 2) (v := .int .i64 16) rfl (by kernel_rfl) (by kernel_rfl) (by kernel_rfl) (fun _ _ _ h => h) (Or.inl ⟨by rfl, fun w' hw' => ?_⟩) hHeld ?_
        · obtain ⟨q1, q2, q3⟩ := hw'; go_simp
        (try simp only [Act.put, List.setIfInBounds_toArray, List.set_cons_zero, List.set_cons_succ])
        refine wpAnyH_take (i := 3) (v := .bool false) rfl (by kernel_rfl) (by kernel_rfl) (by kernel_rfl) (fun _ _ _ h => h) (Or.inl ⟨by rfl, fun w' hw' => ?_⟩) hHeld ?_
        · obtain ⟨q1, q2, q3⟩ := hw'; go_simp
        (try simp only [Act.put, List.setIfInBounds_toArray, List.set_cons_zero, List.set_cons_succ])
        refine wpAnyH_take (i := 4) (v := .bool false) rfl (by kernel_rfl) (by kernel_rfl) (by kernel_rfl) (fun _ _ _ h => h) (Or.inl ⟨by rfl, fun w' hw' => ?_⟩) hHeld ?_
        · obtain ⟨q1, q2, q3⟩ := hw'; go_simp
        (try simp only [Act.put, List.setIfInBounds_toArray, List.set_cons_zero, List.set_cons_succ])
        refine wpAnyH_take (i := 10) (v := .agg (bL tg).toArray) rfl (by kernel_rfl) (by kernel_rfl) (by kernel_rfl) (fun _ _ _ h => h) (yieldsIf_load_mid (by rfl) _ _ rfl _ _ rfl (bL tg) _ (fun w' hw' => hw'.2.1) hu rfl hi1) hHeld ?_
        (try simp only [Act.put, List.setIfInBounds_toArray, List.set_cons_zero, List.set_cons_succ])
        refine wpAnyH_take (i := 5) (v := .pointer (some ⟨w.heap.size, 3, none⟩)) rfl (by kernel_rfl) (by kernel_rfl) (by kernel_rfl) (fun _ _ _ h => h) (Or.inl ⟨by rfl, fun w' hw' => ?_⟩) hHeld ?_
        · obtain ⟨q1, q2, q3⟩ := hw'; go_simp
        (try simp only [Act.put, List.setIfInBounds_toArray, List.set_cons_zero, List.set_cons_succ])
        refine wpAnyH_take (i := 6) (v := .string tg2) rfl (by kernel_rfl) (by kernel_rfl) (by kernel_rfl) (fun _ _ _ h => h) (Or.inl ⟨by rfl, fun w' hw' => ?_⟩) hHeld ?_
        · obtain ⟨q1, q2, q3⟩ := hw'; go_simp
        (try simp only [Act.put, List.setIfInBounds_toArray, List.set_cons_zero, List.set_cons_succ])
        refine wpAnyH_ready (rs := [7]) (by kernel_rfl) (by simp) ?_
        refine AllReadyH.cons rfl (fun K hK => ?_) AllReadyH.nil
        go_simp
        refine hK.out _ _ HSS.out.2 (fun hHeld => ?_)
        clear hK K
        refine wpAnyH_take (i := 8) (v := .pointer (some ⟨w2.heap.size, 0, none⟩)) rfl (by kernel_rfl) (by kernel_rfl) (by kernel_rfl) (fun _ _ _ h => h) (Or.inl ⟨by rfl, fun w' hw' => ?_⟩) hHeld ?_
        · (try go_simp); (try simp only [hat]); (try rfl)
        (try simp only [Act.put, List.setIfInBounds_toArray, List.set_cons_zero, List.set_cons_succ])
        refine wpAnyH_ready (rs := [9]) (by kernel_rfl) (by simp) ?_
        refine AllReadyH.cons rfl (fun K hK => ?_) AllReadyH.nil
        rw [if_pos (by rfl)]
        refine wp_load_mid _ _ rfl _ _ rfl (bL tg2) _ hrg hu rfl hi2 ?_
        refine hK.out _ _ HSS.out.2 (fun hHeld => ?_)
        clear hK K
        (try simp only [Act.put, List.setIfInBounds_toArray, List.set_cons_zero, List.set_cons_succ])
        refine wpAnyH_take (i := 11) (v := .bool true) rfl (by kernel_rfl) (by kernel_rfl) (by kernel_rfl) (fun _ _ _ h => h) (Or.inl ⟨by rfl, fun w' hw' => ?_⟩) hHeld ?_
        · (try go_simp); (try simp only [heq]); (try rfl)
        (try simp only [Act.put, List.setIfInBounds_toArray, List.set_cons_zero, List.set_cons_succ])
        refine wpAnyH_take (i := 12) (v := .bool true) rfl (by kernel_rfl) (by kernel_rfl) (by kernel_rfl) (fun _ _ _ h => h) (Or.inl ⟨by rfl, fun w' hw' => ?_⟩) hHeld ?_
        · (try go_simp)
        (try simp only [Act.put, List.setIfInBounds_toArray, List.set_cons_zero, List.set_cons_succ])
        refine wpAnyH_take (i := 13) (v := .bool true) rfl (by kernel_rfl) (by kernel_rfl) (by kernel_rfl) (fun _ _ _ h => h) (Or.inl ⟨by rfl, fun w' hw' => ?_⟩) hHeld ?_
        · (try go_simp)
        (try simp only [Act.put, List.setIfInBounds_toArray, List.set_cons_zero, List.set_cons_succ])
        refine wpAnyH_done (by kernel_rfl) ?_ _
        have hBB := HSS.out.2.2.2
        clear hHeld hrg hconv heq hc3
        go_wp2_with fail
        go_ret
        exact ⟨by rw [HE2.out]; rfl, hBB⟩
    · have hq : tg2 ≠ tg := fun e => h16 (by rw [e]; exact HZ.out)
      have HE2 : Hid (checkE tg 0 tg2 = 30) := Lib.hid (by rw [HE.out, if_neg hq])
      have hne : ((tg2.size : Int) != 16) = true := by simp; omega
      have hc3 := hS1.1
      have hcc : w2.cell? ⟨w.heap.size, 3, none⟩ = some (.string tg2) := hc3
      clear hq HE hS1
      go_quiet (fail)
      go_wp2_with fail
      have hBN := HBL.out
      go_ret
      exact ⟨by rw [HE2.out]; rfl, drewN_below hBN _⟩
  · have HE2 : Hid (checkE tg e0 tg2 = e0) := Lib.hid (by unfold checkE; rw [if_neg he])
    go_enter Tryd.func62, Tryd.ntmps62
    go_wp2_with (first
      | (go_at_call 112; (with_reducible refine HC.out.mono ?_); rintro e w1 ⟨rfl, hb1⟩; have HB1 := Lib.hid (HB0.out.trans (hb1.mono HB0.out.size)); clear hb1)
      | (refine wpList_store_rowTo rfl 206 _ _ rfl rfl w1.heap.size (bA tg) rfl rfl 206 _ (Blk.new w1 _ _) HA.out HO.out (bA_cells _) ?_))
    go_ret
    exact ⟨by rw [HE2.out]; rfl, row_new HB1.out _ _ _ HB1.out.size⟩
theorem check_any (rv : Value) (r : Option ByteArray) (g n : Int) (text tg2 : ByteArray) (w : World) (hG : GPow w) (hL : GBl w) (hr : RingAt w rv r) (ht : r = none ∨ text.size ≤ 140737488355328) :
    Calls Tryd.prog 62 #[rv, .agg #[.int .i64 g, .int .i64 n, .string text, .string tg2]] w fun e w' =>
      e = .returned (.int .i64 (checkT r g n text tg2)) ∧ Below w.heap.size w w' := by
  have hB : Below w.heap.size w (w.alloc (.cells #[.int .i64 g, .int .i64 n, .string text, .string tg2] 105)) := (Below.refl w.heap.size w).alloc (Nat.le_refl _) _
  exact check_of rv g n text tg2 w _ _ (stampT_size r g n text) (stamp_any rv r g n text _ (hG.below hB hG.lt) (hL.below hB hL.lt) (hr.below hB) ht)
/-- what Sign tells -/
def signA (r : Option ByteArray) (g n : Int) (text : ByteArray) : Array Value :=
  if (stampT r g n text).2 = 0 then #[.int .i64 g, .int .i64 n, .string text, .string (tagT r g n text)] else #[.int .i64 0, .int .i64 0, .string ⟨#[]⟩, .string ⟨#[]⟩]
theorem sign_any (rv : Value) (r : Option ByteArray) (g n : Int) (text : ByteArray) (w : World) (hG : GPow w) (hL : GBl w) (hr : RingAt w rv r) (ht : r = none ∨ text.size ≤ 140737488355328) :
    Calls Tryd.prog 61 #[rv, .agg #[.int .i64 g, .int .i64 n], .string text] w fun e w' =>
      e = .returned (.tuple #[.agg (signA r g n text), .int .i64 (stampT r g n text).2]) ∧ Below w.heap.size w w' := by
  have hB : Below w.heap.size w ((w.alloc (.cells #[.int .i64 g, .int .i64 n] 103)).alloc (.cells #[.int .i64 0, .int .i64 0, .string ⟨#[]⟩, .string ⟨#[]⟩] 105)) :=
    ((Below.refl w.heap.size w).alloc (Nat.le_refl _) _).alloc (by simp) _
  exact sign_of rv g n text w _ _ (tag_any rv r g n text _ (hG.below hB hG.lt) (hL.below hB hL.lt) (hr.below hB) ht)
end Go.Proofs.YtljpjckklkpipaaDoor.Sc
