/- Seal: two texts' tags, reckoned. -/
import Derived.Test.YtljpjckklkpipaaDoorSd
namespace Go.Proofs.YtljpjckklkpipaaDoor.Sc
open Go.RowKit Wd Bld Pk Sa Sb Bl Bk Bt
set_option maxRecDepth 1000000

theorem dig0 : numB 0 = ⟨#[48]⟩ := by unfold numB Lib.itoa; rw [if_neg (by decide), Lib.decDigits]; rfl
theorem dig1 : numB 1 = ⟨#[49]⟩ := by unfold numB Lib.itoa; rw [if_neg (by decide), Lib.decDigits]; rfl
theorem dig3 : numB 3 = ⟨#[51]⟩ := by unfold numB Lib.itoa; rw [if_neg (by decide), Lib.decDigits]; rfl
theorem name03 : nameB 0 3 = ⟨#[49, 58, 48, 44, 49, 58, 51, 44]⟩ := by
  have e1 : numB ((⟨#[48]⟩ : ByteArray).size : Int) = ⟨#[49]⟩ := dig1
  have e2 : numB ((⟨#[51]⟩ : ByteArray).size : Int) = ⟨#[49]⟩ := dig1
  unfold nameB packB
  rw [dig0, dig3]
  simp only [packL, item, List.flatMap_cons, List.flatMap_nil, e1, e2]
  rfl
def oneN : List Nat := (outB (sumH (txt (sumB ⟨#[115]⟩ ⟨#[49, 58, 48, 44, 49, 58, 51, 44]⟩)) [97])).take 16
def twoN : List Nat := (outB (sumH (txt (sumB ⟨#[115]⟩ ⟨#[49, 58, 48, 44, 49, 58, 51, 44]⟩)) [98])).take 16
theorem apart : (oneN.map UInt8.ofNat == twoN.map UInt8.ofNat) = false := by decide +kernel
theorem cut_list (b : ByteArray) : (b.extract 0 16).data.toList = b.data.toList.take 16 := by
  rw [ByteArray.data_extract, Array.toList_extract]
  simp [List.extract]
theorem tags_apart : tagB ⟨#[115]⟩ 0 3 ⟨#[97]⟩ ≠ tagB ⟨#[115]⟩ 0 3 ⟨#[98]⟩ := by
  intro h
  have h1 : (tagB ⟨#[115]⟩ 0 3 ⟨#[97]⟩).data.toList = (tagB ⟨#[115]⟩ 0 3 ⟨#[98]⟩).data.toList := by rw [h]
  unfold tagB at h1
  rw [name03, cut_list, cut_list] at h1
  have h2 : oneN.map UInt8.ofNat = twoN.map UInt8.ofNat := by
    unfold oneN twoN
    rw [List.map_take, List.map_take]
    exact h1
  have h3 := apart
  rw [h2] at h3
  simp at h3
/-- the ring and the texts of the walk below -/
def sB : ByteArray := ⟨#[115]⟩
theorem is03 : isP 0 3 = true := by decide
theorem stampA (text : ByteArray) : stampT (some sB) 0 3 text = (tagB sB 0 3 text, 0) := by unfold stampT; rw [if_pos is03]
theorem signA_a : signA (some sB) 0 3 ⟨#[97]⟩ = #[.int .i64 0, .int .i64 3, .string ⟨#[97]⟩, .string (tagB sB 0 3 ⟨#[97]⟩)] := by unfold signA tagT; rw [stampA]; rfl
theorem check_a : checkT (some sB) 0 3 ⟨#[97]⟩ (tagB sB 0 3 ⟨#[97]⟩) = 0 := by unfold checkT checkE; rw [stampA, if_pos rfl, if_pos rfl]
theorem check_b : checkT (some sB) 0 3 ⟨#[98]⟩ (tagB sB 0 3 ⟨#[97]⟩) = 30 := by unfold checkT checkE; rw [stampA, if_pos rfl]; exact if_neg tags_apart
theorem new_short (seed : ByteArray) (w : World) (h : seed.size ≤ 32) :
    Calls Tryd.prog 57 #[.string seed] w fun e w' => e = .returned (.tuple #[.pointer (some ⟨w.heap.size, 0, none⟩), .int .i64 0]) ∧ w' = w.alloc (.cells #[.string seed] 204) := by
  go_enter Tryd.func57, Tryd.ntmps57
  go_wp2_with fail
  go_ret2
  exact ⟨rfl, rfl⟩
theorem new_long (seed : ByteArray) (w : World) (h : 32 < seed.size) :
    Calls Tryd.prog 57 #[.string seed] w fun e w' => e = .returned (.tuple #[.pointer none, .int .i64 2]) ∧ w' = w := by
  go_enter Tryd.func57, Tryd.ntmps57
  go_wp2_with fail
  go_ret2
  exact ⟨rfl, rfl⟩
def zS : Array Value := #[.int .i64 0, .int .i64 0, .string ⟨#[]⟩, .string ⟨#[]⟩]
def aS (tA : ByteArray) : Array Value := #[.int .i64 0, .int .i64 3, .string ⟨#[97]⟩, .string tA]
theorem two_made {w1 w2 w4 : World} {tA : ByteArray} (h2 : Below w1.heap.size w1 w2)
    (h4 : Below ((w2.alloc (.cells zS 105)).setRow w2.heap.size (aS tA)).heap.size ((w2.alloc (.cells zS 105)).setRow w2.heap.size (aS tA)) w4) :
    Blk w4 w2.heap.size 105 (aS tA) ∧
    (((w4.alloc (.cells zS 105)).setRow w4.heap.size (aS tA)).cell? ⟨w4.heap.size, 2, none⟩ = some (.string ⟨#[97]⟩) ∧ ((w4.alloc (.cells zS 105)).setRow w4.heap.size (aS tA)).frozen? ⟨w4.heap.size, 2, none⟩ = false) ∧
    (((w4.alloc (.cells zS 105)).setRow w4.heap.size (aS tA)).setCell ⟨w4.heap.size, 2, none⟩ (.string ⟨#[98]⟩)).cell? ⟨w2.heap.size, 0, none⟩ = some (.int .i64 0) ∧
    (((w4.alloc (.cells zS 105)).setRow w4.heap.size (aS tA)).setCell ⟨w4.heap.size, 2, none⟩ (.string ⟨#[98]⟩)).cell? ⟨w2.heap.size, 1, none⟩ = some (.int .i64 3) ∧
    (((w4.alloc (.cells zS 105)).setRow w4.heap.size (aS tA)).setCell ⟨w4.heap.size, 2, none⟩ (.string ⟨#[98]⟩)).cell? ⟨w2.heap.size, 2, none⟩ = some (.string ⟨#[97]⟩) ∧
    (((w4.alloc (.cells zS 105)).setRow w4.heap.size (aS tA)).setCell ⟨w4.heap.size, 2, none⟩ (.string ⟨#[98]⟩)).cell? ⟨w2.heap.size, 3, none⟩ = some (.string tA) ∧
    Below w1.heap.size w1 (((w4.alloc (.cells zS 105)).setRow w4.heap.size (aS tA)).setCell ⟨w4.heap.size, 2, none⟩ (.string ⟨#[98]⟩)) ∧
    Blk (((w4.alloc (.cells zS 105)).setRow w4.heap.size (aS tA)).setCell ⟨w4.heap.size, 2, none⟩ (.string ⟨#[98]⟩)) w4.heap.size 105 #[.int .i64 0, .int .i64 3, .string ⟨#[98]⟩, .string tA] := by
  have hb3 : Blk ((w2.alloc (.cells zS 105)).setRow w2.heap.size (aS tA)) w2.heap.size 105 (aS tA) := Blk.row (Blk.new w2 _ _) _
  have hB3 := row_new h2 105 zS (aS tA) h2.size
  have hb4 := hb3.below h4 hb3.lt
  have hB4 := hB3.trans (h4.mono hB3.size)
  have hb5 : Blk ((w4.alloc (.cells zS 105)).setRow w4.heap.size (aS tA)) w4.heap.size 105 (aS tA) := Blk.row (Blk.new w4 _ _) _
  have hB5 : Below w4.heap.size w4 ((w4.alloc (.cells zS 105)).setRow w4.heap.size (aS tA)) := row_new (Below.refl _ _) _ _ _ (Nat.le_refl _)
  have hb6 := (hb4.below hB5 hb4.lt).far (p := ⟨w4.heap.size, 2, none⟩) (Nat.ne_of_lt hb4.lt) (.string ⟨#[98]⟩)
  have hB6 := (hB4.trans (hB5.mono hB4.size)).setCell (p := ⟨w4.heap.size, 2, none⟩) hB4.size (.string ⟨#[98]⟩)
  exact ⟨hb4, ⟨hb5.cell 2, hb5.free 2⟩, hb6.cell 0, hb6.cell 1, hb6.cell 2, hb6.cell 3, hB6, hb5.put 2 _⟩
set_option maxHeartbeats 4000000 in
theorem one_any (w : World) (hG : GPow w) (hL : GBl w) :
    Calls Tryd.prog 58 #[] w fun e w' => e = .returned (.bool true) ∧ Below w.heap.size w w' := by
  obtain ⟨w1, hw1⟩ : ∃ w1, w.alloc (.cells #[.string ⟨#[115]⟩] 204) = w1 := ⟨_, rfl⟩
  have hB0 : Below w.heap.size w w1 := by rw [← hw1]; exact (Below.refl _ w).alloc (Nat.le_refl _) _
  have hR : RingAt w1 (.pointer (some ⟨w.heap.size, 0, none⟩)) (some sB) := ⟨w.heap.size, rfl, by rw [← hw1]; simp [sB], by rw [← hw1]; simp, by decide⟩
  have hG1 := hG.below hB0 hG.lt
  have hL1 := hL.below hB0 hL.lt
  have HW := Lib.hid hw1
  have HF : Hid (∀ w2, Below w1.heap.size w1 w2 → GPow w2 ∧ GBl w2 ∧ RingAt w2 (.pointer (some ⟨w.heap.size, 0, none⟩)) (some sB)) := Lib.hid (fun w2 hb => ⟨hG1.below hb hG1.lt, hL1.below hb hL1.lt, hR.below hb⟩)
  have HB0 := Lib.hid hB0
  have hsg : ∀ w2, Below w1.heap.size w1 w2 → Calls Tryd.prog 61 #[.pointer (some ⟨w.heap.size, 0, none⟩), .agg #[.int .i64 0, .int .i64 3], .string ⟨#[97]⟩] w2 fun e w' =>
      e = .returned (.tuple #[.agg #[.int .i64 0, .int .i64 3, .string ⟨#[97]⟩, .string (tagB sB 0 3 ⟨#[97]⟩)], .int .i64 0]) ∧ Below w2.heap.size w2 w' := fun w2 hb => by
    obtain ⟨q1, q2, q3⟩ := HF.out w2 hb
    have h9 := sign_any _ (some sB) 0 3 ⟨#[97]⟩ w2 q1 q2 q3 (.inr (by decide))
    rw [signA_a, stampA] at h9
    exact h9
  have hca : ∀ w2, Below w1.heap.size w1 w2 → Calls Tryd.prog 62 #[.pointer (some ⟨w.heap.size, 0, none⟩), .agg #[.int .i64 0, .int .i64 3, .string ⟨#[97]⟩, .string (tagB sB 0 3 ⟨#[97]⟩)]] w2 fun e w' =>
      e = .returned (.int .i64 0) ∧ Below w2.heap.size w2 w' := fun w2 hb => by
    obtain ⟨q1, q2, q3⟩ := HF.out w2 hb
    have h9 := check_any _ (some sB) 0 3 ⟨#[97]⟩ (tagB sB 0 3 ⟨#[97]⟩) w2 q1 q2 q3 (.inr (by decide))
    rw [check_a] at h9
    exact h9
  have hcb : ∀ w2, Below w1.heap.size w1 w2 → Calls Tryd.prog 62 #[.pointer (some ⟨w.heap.size, 0, none⟩), .agg #[.int .i64 0, .int .i64 3, .string ⟨#[98]⟩, .string (tagB sB 0 3 ⟨#[97]⟩)]] w2 fun e w' =>
      e = .returned (.int .i64 30) ∧ Below w2.heap.size w2 w' := fun w2 hb => by
    obtain ⟨q1, q2, q3⟩ := HF.out w2 hb
    have h9 := check_any _ (some sB) 0 3 ⟨#[98]⟩ (tagB sB 0 3 ⟨#[97]⟩) w2 q1 q2 q3 (.inr (by decide))
    rw [check_b] at h9
    exact h9
  have hnm : ∀ w2, Below w1.heap.size w1 w2 → Calls Tryd.prog 71 #[.agg #[.int .i64 0, .int .i64 3]] w2 fun e w' =>
      e = .returned (.tuple #[.string ⟨#[49, 58, 48, 44, 49, 58, 51, 44]⟩, .int .i64 0]) ∧ Below w2.heap.size w2 w' := fun w2 hb => by
    have h9 := name_yes 0 3 w2 is03 (HF.out w2 hb).1
    rw [name03] at h9
    exact h9
  generalize tagB sB 0 3 ⟨#[97]⟩ = tA at hsg hca hcb
  have HSG := Lib.hid hsg
  have HCA := Lib.hid hca
  have HCB := Lib.hid hcb
  have HNM := Lib.hid hnm
  clear hw1 hB0 hR hG1 hL1 hsg hca hcb hnm hG hL
  go_enter Tryd.func58, Tryd.ntmps58
  go_wp2_with (first
    | (go_at_call 57; (with_reducible refine (new_short _ _ (by decide)).mono ?_); rintro e wz ⟨rfl, rfl⟩; rw [HW.out])
    | (go_at_call 61; (with_reducible refine (HSG.out _ (Below.refl _ _)).mono ?_); rintro e w2 ⟨rfl, hb2⟩; have HB2 := Lib.hid hb2; clear hb2)
    | (go_at_call 71; (with_reducible refine (HNM.out _ (row_new HB2.out _ _ _ HB2.out.size)).mono ?_); rintro e w4 ⟨rfl, hb4⟩
       have HM := Lib.hid (two_made HB2.out hb4)
       obtain ⟨hm1, hm2⟩ := HM.out.2.1
       have hm3 := HM.out.2.2.1
       have hm4 := HM.out.2.2.2.1
       have hm5 := HM.out.2.2.2.2.1
       have hm6 := HM.out.2.2.2.2.2.1
       have hm7 := HM.out.2.2.2.2.2.2.1
       have hm8 := HM.out.2.2.2.2.2.2.2
       simp only [zS, aS] at hm1 hm2 hm3 hm4 hm5 hm6 hm7 hm8
       have HM7 := Lib.hid hm7
       have HM8 := Lib.hid hm8
       clear hb4 hm7 hm8)
    | (go_at_call 62; (with_reducible refine (HCA.out _ HM7.out).mono ?_); rintro e w7 ⟨rfl, hb7⟩
       have hB7 := HM7.out.trans (hb7.mono HM7.out.size)
       have hk := HM8.out.below hb7 HM8.out.lt
       have hk0 := hk.cell 0
       have hk1 := hk.cell 1
       have hk2 := hk.cell 2
       have hk3 := hk.cell 3
       simp at hk0 hk1 hk2 hk3
       have HB7 := Lib.hid hB7
       clear hb7 hk hB7)
    | (go_at_call 62; (with_reducible refine (HCB.out _ HB7.out).mono ?_); rintro e w8 ⟨rfl, hb8⟩
       have HB8 := Lib.hid (HB7.out.trans (hb8.mono HB7.out.size))
       clear hb8)
    | (refine wpList_store_rowTo rfl 105 _ _ rfl rfl w2.heap.size #[.int .i64 0, .int .i64 3, .string ⟨#[97]⟩, .string tA] rfl rfl 105 _ (Blk.new w2 _ _) size105 rfl (four_cells _ _ _ _) ?_)
    | (refine wpList_load_row rfl 105 _ rfl w2.heap.size rfl 105 #[.int .i64 0, .int .i64 3, .string ⟨#[97]⟩, .string tA] (0, 0) _ HM.out.1 Tryd.underlying105 rfl size105 ?_)
    | (refine wpList_store_rowTo rfl 105 _ _ rfl rfl w4.heap.size #[.int .i64 0, .int .i64 3, .string ⟨#[97]⟩, .string tA] rfl rfl 105 _ (Blk.new w4 _ _) size105 rfl (four_cells _ _ _ _) ?_))
  go_ret
  exact ⟨rfl, HB0.out.trans (HB8.out.mono HB0.out.size)⟩
end Go.Proofs.YtljpjckklkpipaaDoor.Sc
