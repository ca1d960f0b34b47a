/- What is handed in: what was signed; the tables that the sum reads. -/
import Derived.Test.YtljpjckklkpipaaDoorOpn
import Derived.Test.YtljpjckklkpipaaDoorBb
import Derived.Deep.Strs
import Derived.Lib.LaidTab
namespace Go.Proofs.YtljpjckklkpipaaDoor.OpnB
open Go.ChangeShapes Go.WideShapes Go.ChangeAt Go.RowKit Go.Joins Go.Deep Opn Bl Bt
set_option maxRecDepth 100000
theorem cellsSigned : Tryd.prog.cellsOf 105 = 4 := by kernel_rfl
theorem cellsParty : Tryd.prog.cellsOf 103 = 2 := by kernel_rfl
theorem cellsInt : Tryd.prog.cellsOf 3 = 1 := by kernel_rfl
theorem cellsStr : Tryd.prog.cellsOf 9 = 1 := by kernel_rfl
section
variable {H : Type} {enc : TypeId × Value → H} {w : World} {base : Nat} {spare : Nat → Bool} {held : Bool}
theorem party_cells (n : Nat) (cs : List Value) (y : DataW H × List MemPlace) (h : DataW.trod enc Tryd.prog w base spare held n 103 cs = some y) (hl : cs.length = 2) : ∃ g k : Int, cs = [.int .i64 g, .int .i64 k] := by
  match cs, hl with
  | [c0, c1], _ =>
    obtain ⟨y0, y1, m, hx, _, h0, h1⟩ := trod_struct2 Tryd.underlying103 h
    obtain ⟨k, e0, _, _⟩ := DataW.trod_int Tryd.underlying3 h0
    obtain ⟨a, e1, _, _⟩ := DataW.trod_int Tryd.underlying3 h1
    simp [cellsInt] at e0 e1
    subst e0 e1
    exact ⟨_, _, rfl⟩
theorem signed_cells (n : Nat) (cs : List Value) (y : DataW H × List MemPlace) (h : DataW.trod enc Tryd.prog w base spare held n 105 cs = some y) (hl : cs.length = 4) : ∃ (g k : Int) (a b : ByteArray), cs = [.int .i64 g, .int .i64 k, .string a, .string b] := by
  match cs, hl with
  | [c0, c1, c2, c3], _ =>
    obtain ⟨y0, y1, y2, m, hx, _, h0, h1, h2⟩ := trod_struct3 Tryd.underlying105 h
    simp [cellsParty] at h0
    obtain ⟨g, k, e0⟩ := party_cells _ _ _ h0 rfl
    obtain ⟨a, e1, _, _⟩ := DataW.trod_string Tryd.underlying9 h1
    obtain ⟨b, e2, _, _⟩ := DataW.trod_string Tryd.underlying9 h2
    simp [cellsStr] at e0 e1 e2
    obtain ⟨rfl, rfl⟩ := e0
    subst e1 e2
    exact ⟨_, _, _, _, rfl⟩
theorem open_signed {v : Value} {d : DataW H} {p : List MemPlace} {r : Reach} {b0 : Nat} (hv : Value.okWide Tryd.prog w r b0 105 v) (h : DataW.Trod enc Tryd.prog w base spare held 105 v d p) :
    ∃ (g k : Int) (a b : ByteArray), v = .agg #[.int .i64 g, .int .i64 k, .string a, .string b] := by
  obtain ⟨cs, rfl, hsz⟩ := okWide_struct Tryd.underlying105 hv
  obtain ⟨fuel, hf⟩ := h
  obtain ⟨g, k, a, b, ho⟩ := signed_cells _ _ _ hf (by simpa [Value.cells] using hsz.trans cellsSigned)
  refine ⟨g, k, a, b, ?_⟩
  simp [Value.cells] at ho
  congr 1
  exact Array.toList_inj.1 ho
/-- an array of texts that reads as the table holds the table's texts -/
theorem cells_of_strs {P : Program} {sp : Nat → Bool} {fuel : Nat} {t e : TypeId} {n : Nat} {cs : List Value} {ls : List (List UInt8)} {p : List MemPlace}
    (ht : P.underlying t = some (.array n e)) (he : P.underlying e = some .string) (hce : P.cellsOf e = 1) (hct : P.cellsOf t = n)
    (h : DataW.trod enc P w base sp held fuel t cs = some (.agg (ls.map fun l => .lit (.string l)), p)) : cs = ls.map fun l => Value.string ⟨l.toArray⟩ := by
  cases fuel with
  | zero => simp [DataW.trod] at h
  | succ fuel =>
    simp only [DataW.trod, ht, hce, hct, Nat.mul_one] at h
    split at h
    · rename_i hl
      obtain ⟨xs, hm, hx⟩ := Option.map_eq_some_iff.1 h
      have hxs : xs.map (·.1) = ls.map fun l => (DataW.lit (.string l) : DataW H) := by
        have := congrArg Prod.fst hx
        simpa using this
      have hxl : xs.length = n := by simpa using Lib.mapM_length hm
      have hzl : ls.length = n := by
        have := congrArg List.length hxs
        simp at this
        omega
      apply List.ext_getElem?
      intro i
      by_cases hi : i < n
      · obtain ⟨b, hb, hf⟩ := Lib.mapM_at hm i i (by simp [hi])
        obtain ⟨z, hc, rfl, _⟩ := DataW.trod_string he hf
        have h1 : cs[i]? = some (.string z) := by
          have := congrArg (·[0]?) hc
          simpa [List.getElem?_take, List.getElem?_drop] using this
        have h2 : (xs.map (·.1))[i]? = some (DataW.lit (.string z.data.toList) : DataW H) := by simp [hb]
        rw [hxs] at h2
        simp only [List.getElem?_map, Option.map_eq_some_iff, DataW.lit.injEq, Lit.string.injEq] at h2
        obtain ⟨z', hz', h3⟩ := h2
        subst h3
        simp [h1, hz']
      · rw [List.getElem?_eq_none (by omega), List.getElem?_eq_none (by simp; omega)]
    · cases h
end
theorem gnRows : Tryd.prog.globalNamed "wapentake/blake.rows" = some 1 := by kernel_rfl
theorem gnStart : Tryd.prog.globalNamed "wapentake/blake.start" = some 0 := by kernel_rfl
theorem gtRows : (Tryd.prog.globals[1]?).map (·.type) = some 278 := by kernel_rfl
theorem gtStart : (Tryd.prog.globals[0]?).map (·.type) = some 246 := by kernel_rfl
theorem cellsRows : Tryd.prog.cellsOf 278 = 10 := by kernel_rfl
theorem cellsStart : Tryd.prog.cellsOf 246 = 8 := by kernel_rfl
theorem cellsU32 : Tryd.prog.cellsOf 245 = 1 := by kernel_rfl
theorem blake_laid {W : World} {rest : List (String × DataW Unit)} (hs : W.ShapedOpen Tryd.prog) (h : laidMet Tryd.prog (("wapentake/blake.rows", Rows.laid_wapentake_blake_rows) :: ("wapentake/blake.start", Rows.laid_wapentake_blake_start) :: rest) W) : GBl W := by
  have h2 := h.tail
  obtain ⟨ps, ⟨g', t', cs, fuel, p, q, hg', ht', hvar, hd, _, _⟩, _⟩ := h
  obtain rfl := Option.some.inj (gnRows.symm.trans hg')
  obtain rfl := Option.some.inj (gtRows.symm.trans ht')
  have hc := cells_of_strs (ls := rowsL) Tryd.underlying278 Tryd.underlying9 cellsStr cellsRows hd
  have hst : Lib.TabIs Tryd.prog W "wapentake/blake.start" .u32 (iv.map fun (x : Nat) => (x : Int)) := Lib.tabIs_of_head gnStart gtStart Tryd.underlying246 Tryd.underlying245 cellsU32 cellsStart h2
  refine ⟨Nat.le_of_lt (Nat.lt_of_lt_of_le (by omega) (shaped_lt hs)), fun j v hv => ?_, fun j v hv => ?_⟩
  · have h9 := World.var?_cell gnStart hst j
    rw [Nat.zero_add, h9, ← hv]
    simp [iv]
  · have h9 := World.var?_cell gnRows hvar j
    rw [Nat.zero_add, h9, ← hv, ← hc]
    simp
end Go.Proofs.YtljpjckklkpipaaDoor.OpnB
