/- Walks of package table: a new row behind all others. -/
import Derived.Test.YtljpjckklkpipaaDoorTx
namespace Go.Proofs.YtljpjckklkpipaaDoor.Tw
open Go.RowKit Wd Tl
set_option maxRecDepth 100000
set_option linter.unusedSimpArgs false

set_option maxHeartbeats 1000000 in
theorem set_new0 (tb : Nat) (rows : List (ByteArray × ByteArray)) (key u : ByteArray) (w : World) (h : Tab w tb (.slice none 0 0) none rows) (hh : has rows key = false) (hl : rows.length < 16) (hi : lb rows key = rows.length) :
    Calls Tryd.prog 100 #[.pointer (some ⟨tb, 0, none⟩), .string key, .string u] w fun e w' => e = .returned (.int .i64 0) ∧ ∃ v' g', Tab w' tb v' (some g') (rows ++ [(key, u)]) ∧ w.heap.size ≤ g' ∧ Kp (fun k => k = tb) w w' := by
  obtain ⟨i0, hi0, hz0, hz1, hz2⟩ := info_parts info180
  have fnd := find_any tb _ _ rows key w h
  have hs := srt_ins h.srt hh u
  rw [hi, List.take_length, List.drop_length] at hs
  have HS := Lib.hid hs
  rw [hh, hi] at fnd
  have hf := h.few
  have hne : ((rows.length : Int) == 16) = false := by rw [beq_eq_false_iff_ne]; omega
  have hr0 : rows = [] := by
    rcases h.row with ⟨_, _, hr⟩ | ⟨b, cap, cur, hg, _⟩
    · exact hr
    · cases hg
  subst hr0
  clear hi hh hs
  go_enter Tryd.func100, Tryd.ntmps100
  go_wp2_with (first
    | (go_at_call 99; refine fnd.mono ?_; rintro e w1 ⟨rfl, hb1⟩; have h1 := h.below hb1; have c1 := h1.cell; have f1 := h1.free))
  have s2 : Hid (∀ x ∈ [Value.string key, Value.string u], x.oneCell' = true) := fun x hx => by simp at hx; rcases hx with rfl | rfl <;> rfl
  have s4 : Hid (∀ j u', [Value.string key, Value.string u][j]? = some u' → (w1.drew.alloc (.cells #[.string key, .string u] 180)).cell? ((⟨w1.heap.size, 0, none⟩ : Addr).add j) = some u') := cell_two_lit w1.drew key u
  have hk2 := keeps_of_lit (World.grownBy.refl (w1.drew.alloc (.cells #[.string key, .string u] 180)) none)
  have en := World.new_ne w1 ⟨tb, 0, none⟩ c1
  have hlt1 := h1.lt
  have HK2 := Lib.hid hk2
  clear hk2
  go_region_law (first
    | (refine Az.step_append_zero rfl (.tmp 41) (.tmp 47) 175 rfl 180 i0 Tryd.underlying175 hi0 ⟨w1.heap.size, 0, none⟩ 1 1 (by simp [Act.eval, Act.put]) (by omega) none 0 (by simp [Act.eval, Act.put]) ?_)
    | (refine step_append_grows rfl (.tmp 37) (.tmp 48) 175 rfl 180 i0 _ 2 32 Tryd.underlying175 hi0 hz0 hz1 hz2 rfl (by decide) none 0 0 (cellsOf []) (by simp [Act.eval, Act.put]) (fun _ => ⟨rfl, rfl⟩) rfl (fun a ha => by cases ha) ⟨w1.heap.size, 0, none⟩ 1 1 [.string key, .string u] (by simp [Act.eval, Act.put]) rfl s4.out s2.out (by omega) (by unfold maxLen; omega) (by omega) ?_; intro v3 w3 hown3 hg3; have hk3 := HK2.out.trans (Kp.of_below (w' := w3) ⟨hg3.os, hg3.tape, hg3.output, hg3.size, fun k hk => hg3.block k hk (by simp)⟩); have c3 := (Kp.cellB hk3 (p := ⟨tb, 0, none⟩) hlt1).trans c1; have f3 := (Kp.frozenB hk3 (p := ⟨tb, 0, none⟩) hlt1).trans f1; obtain ⟨g3, cp3, rfl, hgb3, hgl3⟩ := hown3.form (by omega)))
  all_goals
    have hT := Tab.made (rows := [] ++ [(key, u)]) (hk3.block tb hlt1 (fun e => e)) h1.blk hown3 (by have := HK2.out.size; simp at this ⊢; omega) (by rw [List.length_append]; simp) (by omega) HS.out (by rw [cells_append]; rfl)
    have hK := ((Kp.of_below hb1).trans (hk3.mono (fun k e => e.elim))).setCell (S := fun k => k = tb) (p := ⟨tb, 0, none⟩) rfl (.slice (some ⟨g3, 0, none⟩) (0 + 1) cp3)
    have hz : w.heap.size ≤ g3 := by have := hb1.size; have := HK2.out.size; simp at this hgb3; omega
    clear hk3 hown3 hg3 c3 f3 HK2 s2 s4 HS
    have HT := Lib.hid hT
    have HK := Lib.hid hK
    clear hT hK
    go_wp2_with fail
    go_ret
    exact ⟨rfl, _, _, HT.out, hz, HK.out⟩

end Go.Proofs.YtljpjckklkpipaaDoor.Tw
