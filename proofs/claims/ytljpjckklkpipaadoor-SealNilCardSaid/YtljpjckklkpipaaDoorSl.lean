/- Slices that are read, of elements of several cells. -/
import Derived.Test.YtljpjckklkpipaaDoorWd
namespace Go.Proofs.YtljpjckklkpipaaDoor.Sl
open Go.RowKit
/-- a slice of elements, each of sz cells -/
def SlC {α : Type} (enc : α → List Value) (sz : Nat) (w : World) (v : Value) (l : List α) : Prop :=
  ∃ A c, v = .slice A l.length c ∧ l.length ≤ 9223372036854775807 ∧ (0 < l.length → ∃ b off, A = some ⟨b, off, none⟩ ∧ b < w.heap.size ∧ ∀ k x, l[k]? = some x → ∀ i u, (enc x)[i]? = some u → w.cell? ⟨b, off + k * sz + i, none⟩ = some u)
theorem SlC.below {α : Type} {enc : α → List Value} {sz : Nat} {w w' : World} {v : Value} {l : List α} (h : SlC enc sz w v l) (hb : Below w.heap.size w w') : SlC enc sz w' v l := by
  obtain ⟨A, c, hv, hl, h⟩ := h
  refine ⟨A, c, hv, hl, fun hp => ?_⟩
  obtain ⟨b, off, hA, hlt, hc⟩ := h hp
  exact ⟨b, off, hA, Nat.lt_of_lt_of_le hlt hb.size, fun k x hk i u hu => (hb.cell (p := ⟨b, off + k * sz + i, none⟩) hlt).trans (hc k x hk i u hu)⟩
end Go.Proofs.YtljpjckklkpipaaDoor.Sl
