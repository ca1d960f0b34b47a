/- Operations handed in. -/
import Derived.Test.YtljpjckklkpipaaDoorTR
import Derived.Test.YtljpjckklkpipaaDoorOpn
namespace Go.Proofs.YtljpjckklkpipaaDoor.OpnT
open Go.ChangeShapes Go.WideShapes Go.ChangeAt Go.RowKit Go.Joins Go.Deep Opn Sl Tw
set_option maxRecDepth 100000
theorem cellsOp : Tryd.prog.cellsOf 47 = 4 := by kernel_rfl
theorem cellsInt : Tryd.prog.cellsOf 3 = 1 := by kernel_rfl
theorem cellsStr : Tryd.prog.cellsOf 9 = 1 := by kernel_rfl
section
variable {H : Type} {enc : TypeId × Value → H} {w : World} {base : Nat} {spare : Nat → Bool} {held : Bool}
theorem op_cells (n : Nat) (cs : List Value) (y : DataW H × List MemPlace) (h : DataW.trod enc Tryd.prog w base spare held n 47 cs = some y) (hl : cs.length = 4) : ∃ o : OpT, cs = encOp o := by
  match cs, hl with
  | [c0, c1, c2, c3], _ =>
    obtain ⟨y0, y1, y2, y3, m, hx, _, h0, h1, h2, h3⟩ := trod_struct4 Tryd.underlying47 h
    obtain ⟨k, e0, _, _⟩ := DataW.trod_int Tryd.underlying3 h0
    obtain ⟨a, e1, _, _⟩ := DataW.trod_string Tryd.underlying9 h1
    obtain ⟨b, e2, _, _⟩ := DataW.trod_string Tryd.underlying9 h2
    obtain ⟨c, e3, _, _⟩ := DataW.trod_string Tryd.underlying9 h3
    simp [cellsInt, cellsStr] at e0 e1 e2 e3
    subst e0 e1 e2 e3
    exact ⟨(k, a, b, c), rfl⟩
theorem open_ops {v : Value} {d : DataW H} {p : List MemPlace} {r : Reach} {b0 : Nat} (hv : Value.okWide Tryd.prog w r b0 63 v) (h : DataW.Trod enc Tryd.prog w base spare held 63 v d p) : ∃ l : List OpT, SlC encOp 4 w v l :=
  open_sl Tryd.underlying63 cellsOp (by omega) (fun _ => rfl) op_cells hv h
theorem open_op {v : Value} {d : DataW H} {p : List MemPlace} {r : Reach} {b0 : Nat} (hv : Value.okWide Tryd.prog w r b0 47 v) (h : DataW.Trod enc Tryd.prog w base spare held 47 v d p) : ∃ o : OpT, v = .agg #[.int .i64 o.1, .string o.2.1, .string o.2.2.1, .string o.2.2.2] := by
  obtain ⟨cs, rfl, hsz⟩ := okWide_struct Tryd.underlying47 hv
  obtain ⟨fuel, hf⟩ := h
  obtain ⟨o, ho⟩ := op_cells _ _ _ hf (by simpa [Value.cells] using hsz.trans cellsOp)
  refine ⟨o, ?_⟩
  simp [Value.cells, encOp] at ho
  congr 1
  exact Array.toList_inj.1 ho
end
end Go.Proofs.YtljpjckklkpipaaDoor.OpnT
