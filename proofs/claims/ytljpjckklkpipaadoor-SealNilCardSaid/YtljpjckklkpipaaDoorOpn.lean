/- What is handed in, opened to what the walks read; the tables that a row lists; a world for the witnesses. -/
import Derived.Test.YtljpjckklkpipaaDoorSl
import Derived.Test.YtljpjckklkpipaaDoorBld
import Derived.Test.YtljpjckklkpipaaDoorCards
import Derived.ProofKit
import Derived.OpenShut
import Derived.ChangeMaps5
import Derived.Lib.SmallJoins
import Derived.Deep.Slices
import Derived.Deep.Fields
import Derived.Deep.DeepHandedRow
import Derived.Stop.LaidErr
namespace Go.Proofs.YtljpjckklkpipaaDoor.Opn
open Go.ChangeShapes Go.WideShapes Go.ChangeAt Go.RowKit Go.Joins Go.Deep Sl Bld
set_option maxRecDepth 100000

theorem own : ownKnob Tryd.prog.godebug = none := by kernel_rfl
theorem laidOut : laidOutB Tryd.prog = true := by kernel_rfl
theorem cell_lt {w : World} {a : Addr} {v : Value} (h : w.cell? a = some v) : a.block < w.heap.size := by
  unfold World.cell? at h
  split at h
  · split at h
    · simp at h
    · rename_i o ho _
      first
        | exact (Array.getElem?_eq_some_iff.1 ho).1
        | (obtain ⟨h9, _⟩ := Array.getElem?_eq_some_iff.1 ho; exact h9)
  · simp at h
section
variable {H : Type} {enc : TypeId × Value → H} {P : Program} {w : World} {base : Nat} {spare : Nat → Bool} {held : Bool}
/-- a slice handed in, opened -/
theorem open_sl {α : Type} [Inhabited α] {encf : α → List Value} {sz : Nat} {t e : TypeId} {v : Value} {d : DataW H} {p : List MemPlace} {r : Reach} {b0 : Nat}
    (ht : P.underlying t = some (.slice e)) (hC : P.cellsOf e = sz) (hsz : 0 < sz) (hlen : ∀ x, (encf x).length = sz)
    (hel : ∀ n cs y, DataW.trod enc P w base spare held n e cs = some y → cs.length = sz → ∃ x, cs = encf x)
    (hv : Value.okWide P w r b0 t v) (h : DataW.Trod enc P w base spare held t v d p) : ∃ l, SlC encf sz w v l := by
  obtain ⟨a, len, cap, rfl⟩ := okWide_slice ht hv
  obtain ⟨fuel, hf⟩ := h
  rcases open_slice ht hf with ⟨h0, _⟩ | ⟨a', len', cap', m, n, D, Pl, hcs, hb, hl, hm, hmm, hx, hi⟩
  · simp [Value.cells] at h0
    obtain ⟨rfl, rfl, rfl⟩ := h0
    exact ⟨[], none, 0, rfl, by simp, by simp⟩
  · simp [Value.cells] at hcs
    obtain ⟨rfl, rfl, rfl⟩ := hcs
    have hlm : len ≤ m := by rw [hmm]; split <;> omega
    obtain ⟨X, hX⟩ := choose_lt (n := m) (p := fun i x => w.cells? base (a'.add (i * P.cellsOf e)) (P.cellsOf e) = some (encf x)) (fun i hi' => by
      obtain ⟨cs', h1, h2⟩ := hi i hi'
      obtain ⟨_, hl', _⟩ := World.cells?_some h1
      obtain ⟨x, rfl⟩ := hel _ _ _ h2 (hl'.trans hC)
      exact ⟨x, h1⟩)
    rw [hC] at hX
    have hat : ∀ k, k < m → ∀ i, i < sz → w.cell? ((a'.add (k * sz)).add i) = (encf (X k))[i]? := fun k hk i hi' => (World.cells?_some (hX k hk)).2.2 i hi'
    refine ⟨(List.range len).map X, some a', cap, by simp, ?_, ?_⟩
    · have : maxLen = 9223372036854775807 := by decide
      simp
      omega
    · intro hp
      simp at hp
      obtain ⟨b, off, spot⟩ := a'
      have h00 : ∃ v, (encf (X 0))[0]? = some v := ⟨_, List.getElem?_eq_getElem (by rw [hlen]; omega)⟩
      obtain ⟨v0, hv0⟩ := h00
      have hc0 := (hat 0 (by omega) 0 (by omega)).trans hv0
      have hspot : spot = none := by simpa [Addr.add] using World.cell?_spot hc0
      subst hspot
      refine ⟨b, off, rfl, by simpa [Addr.add] using cell_lt hc0, fun k x hk i u hu => ?_⟩
      obtain ⟨hk', rfl⟩ : k < len ∧ X k = x := by
        have h9 := List.getElem?_eq_some_iff.1 hk
        obtain ⟨h9, h8⟩ := h9
        simp at h9 h8
        exact ⟨h9, h8⟩
      have hi' : i < sz := by
        have h9 := (List.getElem?_eq_some_iff.1 hu).1
        rw [hlen] at h9
        exact h9
      have h9 := (hat k (by omega) i hi').trans hu
      rwa [add_plain, add_plain] at h9
end
/-- the form's own shape: the globals, and one block more -/
theorem shaped_lt {w : World} (h : w.ShapedOpen Tryd.prog) : 8 < w.heap.size := by
  obtain ⟨o, _, ho, _⟩ := h.2 8 (of_decide_eq_true (by kernel_rfl)) (of_decide_eq_true (by kernel_rfl))
  exact (Array.getElem?_eq_some_iff.1 ho).1
theorem gTy : (Tryd.prog.globals[5]?).map (·.type) = some 323 := by kernel_rfl
theorem cellsTab : Tryd.prog.cellsOf 323 = 20 := by kernel_rfl
theorem cellsU64 : Tryd.prog.cellsOf 247 = 1 := by kernel_rfl
theorem pow_laid {W : World} {rest : List (String × DataW Unit)} (hs : W.ShapedOpen Tryd.prog) (h : laidMet Tryd.prog (("internal/strconv.uint64pow10", Rows.laid_internal_strconv_uint64pow10) :: rest) W) : GPow W :=
  ⟨Nat.le_of_lt (shaped_lt hs), Lib.tabIs_of_head gnPow gTy Tryd.underlying323 Tryd.underlying247 cellsU64 cellsTab h⟩
theorem pow_third {W : World} {x y : String × DataW Unit} {rest : List (String × DataW Unit)} (hs : W.ShapedOpen Tryd.prog) (h : laidMet Tryd.prog (x :: y :: ("internal/strconv.uint64pow10", Rows.laid_internal_strconv_uint64pow10) :: rest) W) : GPow W := by
  exact pow_laid hs h.tail.tail
end Go.Proofs.YtljpjckklkpipaaDoor.Opn
