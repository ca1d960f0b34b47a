/- Of any n views one behind the other each replica of a roster is the primary of one: wapentakelaw07.RosterTurns returns true for every roster and every view; no condition. -/
import Derived.Test.YtljpjckklkpipaaRows
import Derived.Test.YtljpjckklkpipaaRt3
import Derived.Test.YtljpjckklkpipaaLaw
import Derived.ProofKit
import Derived.OpenShut
import Derived.Lib.SmallJoins
namespace Go.Proofs.Ytljpjckklkpipaa.rosterTurns
open Go.ChangeShapes Go.WideShapes Go.ChangeAt Go.RowKit Go.Joins

theorem own : ownKnob Try.prog.godebug = none := by kernel_rfl
theorem laidOut : laidOutB Try.prog = true := by kernel_rfl
theorem cells23 : Try.prog.cellsOf 23 = 3 := by kernel_rfl

set_option maxRecDepth 100000 in
theorem lifted (os : Os) (started : os.Started) (H : Type) (enc : TypeId × Value → H) :
    ReturnsInHanded {} Try.checked os 3 .any (Rows.rosterTurnsSpec.pre6 enc Try.prog Try.f3 Rows.rosterTurnsRow.domain false) (Rows.rosterTurnsSpec.post enc Try.prog Try.f3 false true false false) := by
  refine returnsInHanded_of_change (C := Try.checked) own started (by kernel_rfl) Try.func3
    (ChangeSpec.witness6 (enc := enc) (C := Try.checked) false ⟨#[], #[.agg #[.int .i64 0, .int .i64 0, .int .i64 0], .int .i64 0], []⟩ 8 (by kernel_rfl) (by kernel_rfl) (by kernel_rfl) (by kernel_rfl)) ?_
  intro W base args ds gs before hval0 hW _ _
  have hval : ∀ (j : Nat) t v, Try.f3.params[j]? = some t → args[j]? = some v → Value.okWide Try.prog W .any base t v := hval0
  have hW' := hW
  obtain ⟨p, q, hA0, hV, rfl, hfz, hnd⟩ := hW
  have hA : DataW.TrodAll enc Try.prog W 0 (fun _ => true) true Try.f3.params.toList args.toList ds p := hA0
  rw [Try.params3] at hA hval
  obtain ⟨v0, vs0, d0, ds0, p0, q0, hargs, rfl, rfl, h0, r0⟩ := trodAll_cons hA
  obtain ⟨v1, vs1, d1, ds1, p1, q1, rfl, rfl, rfl, h1, r1⟩ := trodAll_cons r0
  obtain ⟨rfl, rfl, rfl⟩ := trodAll_nil r1
  obtain rfl : args = #[v0, v1] := by cases args; simp_all
  obtain ⟨c0, c1, c2, y0, y1, y2, m, rfl, rfl, rfl, hy0, hy1, hy2⟩ := open_agg3 Try.underlying23 (by kernel_rfl) cells23 (hval 0 23 v0 rfl rfl) h0
  obtain ⟨f, e0, rfl, wf⟩ := DataW.trod_int Try.underlying3 hy0
  obtain ⟨g, e1, rfl, wg⟩ := DataW.trod_int Try.underlying3 hy1
  obtain ⟨c, e2, rfl, wc⟩ := DataW.trod_int Try.underlying3 hy2
  simp at e0 e1 e2
  subst e0 e1 e2
  obtain ⟨v, rfl, rfl, rfl, wv⟩ := open_int Try.underlying3 (hval 1 3 v1 rfl rfl) h1
  have walk : Calls Try.prog 3 #[.agg #[.int .i64 f, .int .i64 g, .int .i64 c], .int .i64 v] W fun e w' => e = .returned (.bool true) ∧ Below W.heap.size W w' := by
    by_cases hr : 0 ≤ f ∧ f ≤ 3 ∧ 1 ≤ g ∧ g ≤ 4 ∧ 1 ≤ c ∧ c ≤ 8
    · by_cases hv : 0 ≤ v ∧ v ≤ 549755813888
      · exact Rt.law_in f g c v W hr.1 hr.2.1 hr.2.2.1 hr.2.2.2.1 hr.2.2.2.2.1 hr.2.2.2.2.2 hv.1 hv.2
      · exact Rt.law_out f g c v W (.inr ⟨hr, by omega⟩)
    · exact Rt.law_out f g c v W (.inl hr)
  refine walk.mono fun e W' ⟨he, hB⟩ => ?_
  subst he
  exact ⟨_, rfl, Law.post laidOut (fun t ht => by
    have ht' : t = 23 ∨ t = 3 := by
      have : Try.f3.params = #[23, 3] := Try.params3
      rw [this] at ht; simpa using ht
    rcases ht' with rfl | rfl
    · exact ⟨by kernel_rfl, of_decide_eq_true (by kernel_rfl)⟩
    · exact ⟨by kernel_rfl, of_decide_eq_true (by kernel_rfl)⟩) Try.underlying4 rfl rfl (fun ds hd => by
      have hs : ds.length = 2 := hd
      match ds, hs with
      | [a, b], _ => rfl) hW' hB⟩

theorem holds : Rows.RosterTurnsSaid :=
  OpenClaim.holds_of_wide 3 Try.f3 rfl rfl rfl rfl rfl rfl rfl ⟨rfl, rfl, rfl, rfl, rfl⟩ rfl rfl rfl rfl rfl (by kernel_rfl) Try.func3 (by kernel_rfl)
    (of_decide_eq_true (by kernel_rfl)) (by unfold Func.isWrapper; first | (rw [if_pos (by decide +kernel)]; kernel_rfl) | (rw [if_neg (by decide +kernel)]; exact ⟨rfl, rfl⟩))
    (fun os started H enc _ => lifted os started H enc)
end Go.Proofs.Ytljpjckklkpipaa.rosterTurns
