/- The walk of SealNil. -/
import Derived.Test.YtljpjckklkpipaaDoorSe
namespace Go.Proofs.YtljpjckklkpipaaDoor.Sc
open Go.RowKit Wd Bld Pk Sa Sb Bl Bk Bt
set_option maxRecDepth 100000
set_option linter.unusedSimpArgs false

theorem nil_any (g n : Int) (text tag : ByteArray) (w : World) (hG : GPow w) (hL : GBl w) :
    Calls Tryd.prog 17 #[.agg #[.int .i64 g, .int .i64 n, .string text, .string tag]] w fun e w' => e = .returned (.bool true) ∧ Below w.heap.size w w' := by
  obtain ⟨w1, hw1⟩ : ∃ w1, w.alloc (.cells #[.int .i64 g, .int .i64 n, .string text, .string tag] 105) = w1 := ⟨_, rfl⟩
  have hB0 : Below w.heap.size w w1 := by rw [← hw1]; exact (Below.refl _ w).alloc (Nat.le_refl _) _
  have hblk : Blk w1 w.heap.size 105 #[.int .i64 g, .int .i64 n, .string text, .string tag] := by rw [← hw1]; exact Blk.new w _ _
  have hG1 := hG.below hB0 hG.lt
  have hL1 := hL.below hB0 hL.lt
  obtain ⟨e0, he0, hok⟩ : ∃ e0 : Int, (stampT none g n text).2 = e0 ∧ (e0 = if isP g n then 7 else 1) := ⟨_, rfl, by unfold stampT; split <;> rfl⟩
  have hne : e0 ≠ 0 := by rw [hok]; split <;> decide
  have hF : ∀ w2, Below w1.heap.size w1 w2 → GPow w2 ∧ GBl w2 := fun w2 hb => ⟨hG1.below hb hG1.lt, hL1.below hb hL1.lt⟩
  have htg : ∀ w2, Below w1.heap.size w1 w2 → Calls Tryd.prog 59 #[.pointer none, .agg #[.int .i64 g, .int .i64 n], .string text] w2 fun e w' =>
      e = .returned (.tuple #[.string ⟨#[]⟩, .int .i64 e0]) ∧ Below w2.heap.size w2 w' := fun w2 hb => by
    have h9 := tag_any (.pointer none) none g n text w2 (hF w2 hb).1 (hF w2 hb).2 rfl (.inl rfl)
    unfold tagT at h9
    rw [he0, if_neg hne] at h9
    exact h9
  have hsg : ∀ w2, Below w1.heap.size w1 w2 → Calls Tryd.prog 61 #[.pointer none, .agg #[.int .i64 g, .int .i64 n], .string text] w2 fun e w' =>
      e = .returned (.tuple #[.agg #[.int .i64 0, .int .i64 0, .string ⟨#[]⟩, .string ⟨#[]⟩], .int .i64 e0]) ∧ Below w2.heap.size w2 w' := fun w2 hb => by
    have h9 := sign_any (.pointer none) none g n text w2 (hF w2 hb).1 (hF w2 hb).2 rfl (.inl rfl)
    unfold signA at h9
    rw [he0, if_neg hne] at h9
    exact h9
  have hck : ∀ w2, Below w1.heap.size w1 w2 → Calls Tryd.prog 62 #[.pointer none, .agg #[.int .i64 g, .int .i64 n, .string text, .string tag]] w2 fun e w' =>
      e = .returned (.int .i64 e0) ∧ Below w2.heap.size w2 w' := fun w2 hb => by
    have h9 := check_any (.pointer none) none g n text tag w2 (hF w2 hb).1 (hF w2 hb).2 rfl (.inl rfl)
    unfold checkT checkE at h9
    rw [he0, if_neg hne] at h9
    exact h9
  have hon : ∀ w2, Below w1.heap.size w1 w2 → Calls Tryd.prog 58 #[] w2 fun e w' => e = .returned (.bool true) ∧ Below w2.heap.size w2 w' :=
    fun w2 hb => one_any w2 (hF w2 hb).1 (hF w2 hb).2
  have hcl : ∀ w2, Below w1.heap.size w1 w2 → w2.cell? ⟨w.heap.size, 0, none⟩ = some (.int .i64 g) ∧ w2.cell? ⟨w.heap.size, 1, none⟩ = some (.int .i64 n) ∧ w2.cell? ⟨w.heap.size, 2, none⟩ = some (.string text) ∧ w2.cell? ⟨w.heap.size, 3, none⟩ = some (.string tag) := fun w2 hb => by
    have h9 := hblk.below hb hblk.lt
    exact ⟨h9.cell 0, h9.cell 1, h9.cell 2, h9.cell 3⟩
  have HW := Lib.hid hw1
  have HTG := Lib.hid htg
  have HSG := Lib.hid hsg
  have HCK := Lib.hid hck
  have HON := Lib.hid hon
  have HCL := Lib.hid hcl
  have HB0 := Lib.hid hB0
  have HNE := Lib.hid hne
  clear hw1 htg hsg hck hon hcl hB0 hne hF hblk hG1 hL1 hG hL he0
  cases hp : isP g n with
  | true =>
    rw [hp] at hok
    have hok' : e0 = 7 := hok
    subst hok'
    clear hok
    go_enter Tryd.func17, Tryd.ntmps17
    go_wp2_with (first
      | (go_at_call 64; rw [HW.out]; (with_reducible refine (ref_is_any _ _ _).mono ?_); rintro e w2 ⟨rfl, hb2⟩; rw [hp]
         obtain ⟨c0, c1, c2, c3⟩ := HCL.out _ hb2
         have HB2 := Lib.hid hb2
         clear hb2)
      | (go_at_call 59; (with_reducible refine (HTG.out _ HB2.out).mono ?_); rintro e w3 ⟨rfl, hb3⟩
         have HB3 := Lib.hid (HB2.out.trans (hb3.mono HB2.out.size))
         obtain ⟨d0, d1, d2, d3⟩ := HCL.out _ HB3.out
         clear hb3)
      | (go_at_call 61; (with_reducible refine (HSG.out _ HB3.out).mono ?_); rintro e w4 ⟨rfl, hb4⟩
         have HB4 := Lib.hid (HB3.out.trans (hb4.mono HB3.out.size))
         have HB5 := Lib.hid (row_new HB4.out 105 #[.int .i64 0, .int .i64 0, .string ⟨#[]⟩, .string ⟨#[]⟩] #[.int .i64 0, .int .i64 0, .string ⟨#[]⟩, .string ⟨#[]⟩] HB4.out.size)
         obtain ⟨f0, f1, f2, f3⟩ := HCL.out _ HB5.out
         clear hb4)
      | (refine wpList_store_rowTo rfl 105 _ _ rfl rfl w4.heap.size #[.int .i64 0, .int .i64 0, .string ⟨#[]⟩, .string ⟨#[]⟩] rfl rfl 105 _ (Blk.new w4 _ _) size105 rfl (four_cells _ _ _ _) ?_)
      | (go_at_call 62; (with_reducible refine (HCK.out _ HB5.out).mono ?_); rintro e w6 ⟨rfl, hb6⟩
         have HB6 := Lib.hid (HB5.out.trans (hb6.mono HB5.out.size))
         clear hb6)
      | (go_at_call 58; (with_reducible refine (HON.out _ HB6.out).mono ?_); rintro e w7 ⟨rfl, hb7⟩
         have HB7 := Lib.hid (HB6.out.trans (hb7.mono HB6.out.size))
         clear hb7))
    go_ret
    exact ⟨rfl, HB0.out.trans (HB7.out.mono HB0.out.size)⟩
  | false =>
    rw [hp] at hok
    have hok' : e0 = 1 := hok
    subst hok'
    clear hok
    go_enter Tryd.func17, Tryd.ntmps17
    go_wp2_with (first
      | (go_at_call 64; rw [HW.out]; (with_reducible refine (ref_is_any _ _ _).mono ?_); rintro e w2 ⟨rfl, hb2⟩; rw [hp]
         obtain ⟨c0, c1, c2, c3⟩ := HCL.out _ hb2
         have HB2 := Lib.hid hb2
         clear hb2)
      | (go_at_call 59; (with_reducible refine (HTG.out _ HB2.out).mono ?_); rintro e w3 ⟨rfl, hb3⟩
         have HB3 := Lib.hid (HB2.out.trans (hb3.mono HB2.out.size))
         obtain ⟨d0, d1, d2, d3⟩ := HCL.out _ HB3.out
         clear hb3)
      | (go_at_call 61; (with_reducible refine (HSG.out _ HB3.out).mono ?_); rintro e w4 ⟨rfl, hb4⟩
         have HB4 := Lib.hid (HB3.out.trans (hb4.mono HB3.out.size))
         have HB5 := Lib.hid (row_new HB4.out 105 #[.int .i64 0, .int .i64 0, .string ⟨#[]⟩, .string ⟨#[]⟩] #[.int .i64 0, .int .i64 0, .string ⟨#[]⟩, .string ⟨#[]⟩] HB4.out.size)
         obtain ⟨f0, f1, f2, f3⟩ := HCL.out _ HB5.out
         clear hb4)
      | (refine wpList_store_rowTo rfl 105 _ _ rfl rfl w4.heap.size #[.int .i64 0, .int .i64 0, .string ⟨#[]⟩, .string ⟨#[]⟩] rfl rfl 105 _ (Blk.new w4 _ _) size105 rfl (four_cells _ _ _ _) ?_)
      | (go_at_call 62; (with_reducible refine (HCK.out _ HB5.out).mono ?_); rintro e w6 ⟨rfl, hb6⟩
         have HB6 := Lib.hid (HB5.out.trans (hb6.mono HB5.out.size))
         clear hb6)
      | (go_at_call 58; (with_reducible refine (HON.out _ HB6.out).mono ?_); rintro e w7 ⟨rfl, hb7⟩
         have HB7 := Lib.hid (HB6.out.trans (hb7.mono HB6.out.size))
         clear hb7))
    go_ret
    exact ⟨rfl, HB0.out.trans (HB7.out.mono HB0.out.size)⟩
end Go.Proofs.YtljpjckklkpipaaDoor.Sc
