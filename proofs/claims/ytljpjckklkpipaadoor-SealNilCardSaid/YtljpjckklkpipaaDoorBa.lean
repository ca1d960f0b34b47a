/- Walks of math/bits.RotateLeft32, blake's half of G, and the digit of a row. -/
import Derived.Test.YtljpjckklkpipaaDoorProg
import Derived.Test.YtljpjckklkpipaaDoorWd
import Derived.Test.YtljpjckklkpipaaDoorBl
namespace Go.Proofs.YtljpjckklkpipaaDoor.Ba
open Go.RowKit Wd Bl
set_option maxRecDepth 100000

theorem ret_int {k : IntKind} {a b : Int} (h : a = b) : Ending.returned (.int k a) = .returned (.int k b) := by rw [h]
theorem rot_any (x n : Nat) (hx : x < 4294967296) (hn : Tn n) (w : World) :
    Calls Tryd.prog 181 #[.int .u32 x, .int .i64 (-(n : Int))] w fun e w' => e = .returned (.int .u32 (rr x n)) ∧ w = w' := by
  have hr := rot_eq x n hx hn
  rw [IntKind.wrap_u32'] at hr
  rcases hn with rfl | rfl | rfl | rfl
  all_goals simp only [Nat.reduceSub, Int.reducePow] at hr
  · have HR := Lib.hid hr
    clear hr
    have hs : bits .and .u64 (IntKind.u64.wrap (-16)) 31 = 16 := by kernel_rfl
    go_enter Tryd.func181, Tryd.ntmps181
    go_wp2
    go_ret
    exact ⟨ret_int HR.out, rfl⟩
  · have HR := Lib.hid hr
    clear hr
    have hs : bits .and .u64 (IntKind.u64.wrap (-12)) 31 = 20 := by kernel_rfl
    go_enter Tryd.func181, Tryd.ntmps181
    go_wp2
    go_ret
    exact ⟨ret_int HR.out, rfl⟩
  · have HR := Lib.hid hr
    clear hr
    have hs : bits .and .u64 (IntKind.u64.wrap (-8)) 31 = 24 := by kernel_rfl
    go_enter Tryd.func181, Tryd.ntmps181
    go_wp2
    go_ret
    exact ⟨ret_int HR.out, rfl⟩
  · have HR := Lib.hid hr
    clear hr
    have hs : bits .and .u64 (IntKind.u64.wrap (-7)) 31 = 25 := by kernel_rfl
    go_enter Tryd.func181, Tryd.ntmps181
    go_wp2
    go_ret
    exact ⟨ret_int HR.out, rfl⟩

/-- a word's value -/
abbrev wv (x : Nat) : Value := .int .u32 (x : Int)
def Ln.val (l : Ln) : Value := .agg #[wv l.a, wv l.b, wv l.c, wv l.d]
theorem half_any (l : Ln) (x n m : Nat) (hl : l.Ok) (hn : Tn n) (hm : Tn m) (w : World) :
    Calls Tryd.prog 171 #[.agg #[wv l.a, wv l.b, wv l.c, wv l.d], .int .u32 x, .int .i64 n, .int .i64 m] w fun e w' => e = .returned (Ln.val (l.half x n m)) ∧ Below w.heap.size w w' := by
  obtain ⟨a, b, c, d⟩ := l
  obtain ⟨h1, h2, h3, h4⟩ := hl
  simp only at h1 h2 h3 h4
  obtain ⟨A, hA0⟩ : ∃ A, hA ⟨a, b, c, d⟩ x = A := ⟨_, rfl⟩
  obtain ⟨D, hD0⟩ : ∃ D, hD ⟨a, b, c, d⟩ x n = D := ⟨_, rfl⟩
  obtain ⟨C, hC0⟩ : ∃ C, hC ⟨a, b, c, d⟩ x n = C := ⟨_, rfl⟩
  have hfin : Ln.half ⟨a, b, c, d⟩ x n m = ⟨A, rr (b ^^^ C) m, C, D⟩ := by subst hA0 hD0 hC0; rfl
  have hAe : A = (a + b + x) % 4294967296 := hA0.symm
  have hDe : D = rr (d ^^^ A) n := by subst hA0; exact hD0.symm
  have hCe : C = (c + D) % 4294967296 := by subst hD0; exact hC0.symm
  have hAl : A < 4294967296 := by omega
  have hDl : D < 4294967296 := by rw [hDe]; exact rr_lt (xor_lt h4 hAl) hn
  have hCl : C < 4294967296 := by omega
  have e1 : ((a : Int) + b + x) % 4294967296 = (A : Int) := by omega
  have e2 : bits .xor .u32 (d : Int) (A : Int) = ((d ^^^ A : Nat) : Int) := u32_xor_nat _ _ h4 hAl
  have e3 : ((c : Int) + D) % 4294967296 = (C : Int) := by omega
  have e4 : bits .xor .u32 (b : Int) (C : Int) = ((b ^^^ C : Nat) : Int) := u32_xor_nat _ _ h2 hCl
  have e5 : wrap64 (-(n : Int)) = -(n : Int) := by unfold wrap64; rcases hn with rfl | rfl | rfl | rfl <;> rfl
  have e6 : wrap64 (-(m : Int)) = -(m : Int) := by unfold wrap64; rcases hm with rfl | rfl | rfl | rfl <;> rfl
  have c1 := rot_any (d ^^^ A) n (xor_lt h4 hAl) hn
  rw [← hDe] at c1
  have c2 := rot_any (b ^^^ C) m (xor_lt h2 hCl) hm
  have HF := Lib.hid hfin
  have C1 := Lib.hid c1
  have C2 := Lib.hid c2
  generalize rr (b ^^^ C) m = B at HF C2
  generalize d ^^^ A = X at e2 C1
  generalize b ^^^ C = Y at e4 C2
  clear hA0 hD0 hC0 hfin hAe hDe hCe c1 c2
  go_enter Tryd.func171, Tryd.ntmps171
  go_wp2_with fail
  refine (C1.out _).mono ?_
  rintro e w1 ⟨rfl, rfl⟩
  go_wp2_with fail
  refine (C2.out _).mono ?_
  rintro e w1 ⟨rfl, rfl⟩
  go_wp2_with fail
  exact bodyPost_ret (v := Ln.val ⟨A, B, C, D⟩) (by simp [results, Tryd.results171, go_sem, Ln.val]) rfl ⟨by rw [HF.out], ((Below.refl _ _).alloc (Nat.le_refl _) _).alloc (by simp) _⟩

def Hex (row : ByteArray) : Prop := row.size = 16 ∧ ∀ c ∈ row.data.toList, (48 ≤ c.toNat ∧ c.toNat ≤ 57) ∨ (97 ≤ c.toNat ∧ c.toNat ≤ 102)
theorem digit_any (mb : Nat) (M : List Nat) (row : ByteArray) (j : Nat) (w : World) (hr : Hex row) (hj : j < 16)
    (hm : ∀ i, i < 16 → w.cell? ⟨mb, i, none⟩ = some (wv (M[i]?.getD 0))) :
    Calls Tryd.prog 172 #[.pointer (some ⟨mb, 0, none⟩), .string row, .int .i64 j] w fun e w' => e = .returned (.int .u32 (wd M row.data.toList j)) ∧ w = w' := by
  obtain ⟨hs, hx⟩ := hr
  have hjs : j < row.size := by omega
  have hjl : j < row.data.toList.length := by rw [Array.length_toList]; exact hjs
  obtain ⟨c, hc⟩ : ∃ c, row.data.toList[j] = c := ⟨_, rfl⟩
  have hcx := hx c (by rw [← hc]; exact List.getElem_mem hjl)
  have hwd : wd M row.data.toList j = M[dg c.toNat]?.getD 0 := by
    unfold wd
    rw [List.getElem?_eq_getElem hjl, hc, Option.getD_some]
  rw [hwd]
  have hcj : row[j] = c := hc
  have hm1 := hm (dg c.toNat) (by unfold dg; split <;> omega)
  clear hwd hc hx hm
  rcases hcx with ⟨g1, g2⟩ | ⟨g1, g2⟩
  · have hd : dg c.toNat = c.toNat - 48 := by unfold dg; rw [if_pos g2]
    rw [hd] at hm1 ⊢
    go_enter Tryd.func172, Tryd.ntmps172
    go_wp2_with fail
    go_ret
    exact ⟨rfl, rfl⟩
  · have hd : dg c.toNat = c.toNat - 97 + 10 := by unfold dg; rw [if_neg (by omega)]; omega
    rw [hd] at hm1 ⊢
    go_enter Tryd.func172, Tryd.ntmps172
    go_wp2_with fail
    go_ret
    exact ⟨rfl, rfl⟩
end Go.Proofs.YtljpjckklkpipaaDoor.Ba
