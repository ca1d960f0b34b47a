/- Texts handed in. -/
import Derived.Test.YtljpjckklkpipaaDoorOpn
import Derived.Test.YtljpjckklkpipaaDoorTF
namespace Go.Proofs.YtljpjckklkpipaaDoor.OpnS
open Go.ChangeShapes Go.WideShapes Go.ChangeAt Go.RowKit Go.Joins Go.Deep Opn Sl Tw
set_option maxRecDepth 100000
theorem cellsStr : Tryd.prog.cellsOf 9 = 1 := by kernel_rfl
section
variable {H : Type} {enc : TypeId × Value → H} {w : World} {base : Nat} {spare : Nat → Bool} {held : Bool}
theorem str_cells (n : Nat) (cs : List Value) (y : DataW H × List MemPlace) (h : DataW.trod enc Tryd.prog w base spare held n 9 cs = some y) (hl : cs.length = 1) : ∃ s : ByteArray, cs = encS s := by
  match cs, hl with
  | [c0], _ =>
    obtain ⟨a, e0, _, _⟩ := DataW.trod_string Tryd.underlying9 h
    simp at e0
    subst e0
    exact ⟨a, rfl⟩
theorem open_strs {v : Value} {d : DataW H} {p : List MemPlace} {r : Reach} {b0 : Nat} (hv : Value.okWide Tryd.prog w r b0 93 v) (h : DataW.Trod enc Tryd.prog w base spare held 93 v d p) : ∃ l : List ByteArray, SlC encS 1 w v l :=
  open_sl Tryd.underlying93 cellsStr (by omega) (fun _ => rfl) str_cells hv h
theorem open_str {v : Value} {r : Reach} {b0 : Nat} (hv : Value.okWide Tryd.prog w r b0 9 v) : ∃ s : ByteArray, v = .string s := okWide_string Tryd.underlying9 hv
end
end Go.Proofs.YtljpjckklkpipaaDoor.OpnS
