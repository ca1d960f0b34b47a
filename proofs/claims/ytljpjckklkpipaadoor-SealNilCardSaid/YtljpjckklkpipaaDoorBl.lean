/- BLAKE2s by definition, on numbers below 2^32; no program in sight. -/
import Derived.Laws.BitsAllLaws
import Derived.Laws.Shifts
namespace Go.Proofs.YtljpjckklkpipaaDoor.Bl
open Go

/-- a word turned right -/
def rr (x n : Nat) : Nat := x / 2 ^ n + x % 2 ^ n * 2 ^ (32 - n)
def Tn (n : Nat) : Prop := n = 16 ∨ n = 12 ∨ n = 8 ∨ n = 7
theorem rr_lt {x n : Nat} (hx : x < 4294967296) (hn : Tn n) : rr x n < 4294967296 := by
  unfold rr
  rcases hn with rfl | rfl | rfl | rfl
  all_goals simp only [Nat.reducePow, Nat.reduceSub]; omega
theorem xor_lt {a b : Nat} (ha : a < 4294967296) (hb : b < 4294967296) : a ^^^ b < 4294967296 := Nat.xor_lt_two_pow (n := 32) ha hb
theorem rot_eq (x n : Nat) (hx : x < 4294967296) (hn : Tn n) : bits .or .u32 (IntKind.u32.wrap ((x : Int) * 2 ^ (32 - n))) ((x : Int) / 2 ^ n) = ((rr x n : Nat) : Int) := by
  have key : ∀ a b k : Nat, b < 2 ^ k → a * 2 ^ k < 4294967296 → b < 4294967296 → bits .or .u32 ((a * 2 ^ k : Nat) : Int) (b : Int) = ((b + a * 2 ^ k : Nat) : Int) := by
    intro a b k hb h1 h2
    rw [u32_or_nat _ _ h1 h2, Nat.mul_comm a, ← Nat.two_pow_add_eq_or_of_lt hb a, Nat.add_comm]
  have h16 := key (x % 2 ^ 16) (x / 2 ^ 16) 16
  have h12 := key (x % 2 ^ 12) (x / 2 ^ 12) 20
  have h8 := key (x % 2 ^ 8) (x / 2 ^ 8) 24
  have h7 := key (x % 2 ^ 7) (x / 2 ^ 7) 25
  simp only [Nat.reducePow] at h16 h12 h8 h7
  have e : ∀ k m : Int, IntKind.u32.wrap k = k % 4294967296 := fun k _ => IntKind.wrap_u32' k
  unfold rr
  rcases hn with rfl | rfl | rfl | rfl
  · rw [IntKind.wrap_u32', show ((x : Int) * 2 ^ (32 - 16)) % 4294967296 = ((x % 65536 * 65536 : Nat) : Int) from by simp only [Nat.reduceSub, Int.reducePow]; omega, show (x : Int) / 2 ^ 16 = ((x / 65536 : Nat) : Int) from by simp only [Int.reducePow]; omega]
    exact h16 (by omega) (by omega) (by omega)
  · rw [IntKind.wrap_u32', show ((x : Int) * 2 ^ (32 - 12)) % 4294967296 = ((x % 4096 * 1048576 : Nat) : Int) from by simp only [Nat.reduceSub, Int.reducePow]; omega, show (x : Int) / 2 ^ 12 = ((x / 4096 : Nat) : Int) from by simp only [Int.reducePow]; omega]
    exact h12 (by omega) (by omega) (by omega)
  · rw [IntKind.wrap_u32', show ((x : Int) * 2 ^ (32 - 8)) % 4294967296 = ((x % 256 * 16777216 : Nat) : Int) from by simp only [Nat.reduceSub, Int.reducePow]; omega, show (x : Int) / 2 ^ 8 = ((x / 256 : Nat) : Int) from by simp only [Int.reducePow]; omega]
    exact h8 (by omega) (by omega) (by omega)
  · rw [IntKind.wrap_u32', show ((x : Int) * 2 ^ (32 - 7)) % 4294967296 = ((x % 128 * 33554432 : Nat) : Int) from by simp only [Nat.reduceSub, Int.reducePow]; omega, show (x : Int) / 2 ^ 7 = ((x / 128 : Nat) : Int) from by simp only [Int.reducePow]; omega]
    exact h7 (by omega) (by omega) (by omega)

/-- va, vb, vc, vd -/
structure Ln where
  a : Nat
  b : Nat
  c : Nat
  d : Nat
def Ln.Ok (l : Ln) : Prop := l.a < 4294967296 ∧ l.b < 4294967296 ∧ l.c < 4294967296 ∧ l.d < 4294967296
def hA (l : Ln) (x : Nat) : Nat := (l.a + l.b + x) % 4294967296
def hD (l : Ln) (x n : Nat) : Nat := rr (l.d ^^^ hA l x) n
def hC (l : Ln) (x n : Nat) : Nat := (l.c + hD l x n) % 4294967296
def hB (l : Ln) (x n m : Nat) : Nat := rr (l.b ^^^ hC l x n) m
/-- one half of G -/
def Ln.half (l : Ln) (x n m : Nat) : Ln := ⟨hA l x, hB l x n m, hC l x n, hD l x n⟩
theorem Ln.Ok.half {l : Ln} (h : l.Ok) (x : Nat) {n m : Nat} (hn : Tn n) (hm : Tn m) : (l.half x n m).Ok := by
  obtain ⟨_, h2, _, h4⟩ := h
  have ha : hA l x < 4294967296 := Nat.mod_lt _ (by decide)
  have hd : hD l x n < 4294967296 := rr_lt (xor_lt h4 ha) hn
  have hc : hC l x n < 4294967296 := Nat.mod_lt _ (by decide)
  exact ⟨ha, rr_lt (xor_lt h2 hc) hm, hc, hd⟩
def gL (l : Ln) (x y : Nat) : Ln := (l.half x 16 12).half y 8 7
theorem Ln.Ok.g {l : Ln} (h : l.Ok) (x y : Nat) : (gL l x y).Ok := (h.half x (.inl rfl) (.inr (.inl rfl))).half y (.inr (.inr (.inl rfl))) (.inr (.inr (.inr rfl)))

/-- words -/
def Ws (v : List Nat) : Prop := ∀ x ∈ v, x < 4294967296
theorem Ws.at_ {v : List Nat} (h : Ws v) (i : Nat) : v[i]?.getD 0 < 4294967296 := by
  cases e : v[i]? with
  | none => simp
  | some x => exact h x (List.mem_of_getElem? e)
theorem Ws.set_ {v : List Nat} (h : Ws v) (i : Nat) {x : Nat} (hx : x < 4294967296) : Ws (v.set i x) := by
  intro y hy
  rcases List.mem_or_eq_of_mem_set hy with h1 | h1
  · exact h y h1
  · subst h1; exact hx
def lane (v : List Nat) (i p : Nat) : Ln := ⟨v[i]?.getD 0, v[4 + (i + p) % 4]?.getD 0, v[8 + (i + 2 * p) % 4]?.getD 0, v[12 + (i + 3 * p) % 4]?.getD 0⟩
theorem Ws.lane_ {v : List Nat} (h : Ws v) (i p : Nat) : (lane v i p).Ok := ⟨h.at_ _, h.at_ _, h.at_ _, h.at_ _⟩
def putLn (v : List Nat) (i p : Nat) (l : Ln) : List Nat := (((v.set i l.a).set (4 + (i + p) % 4) l.b).set (8 + (i + 2 * p) % 4) l.c).set (12 + (i + 3 * p) % 4) l.d
theorem putLn_length (v : List Nat) (i p : Nat) (l : Ln) : (putLn v i p l).length = v.length := by simp [putLn]
theorem Ws.put_ {v : List Nat} (h : Ws v) (i p : Nat) {l : Ln} (hl : l.Ok) : Ws (putLn v i p l) :=
  (((h.set_ _ hl.1).set_ _ hl.2.1).set_ _ hl.2.2.1).set_ _ hl.2.2.2
/-- a hex digit's number -/
def dg (c : Nat) : Nat := if c ≤ 57 then c - 48 else c - 87
/-- the word that a row names at a place -/
def wd (m : List Nat) (row : List UInt8) (j : Nat) : Nat := m[dg (row[j]?.getD 0).toNat]?.getD 0
def stepN (m : List Nat) (row : List UInt8) (t p : Nat) (v : List Nat) (i : Nat) : List Nat := putLn v i p (gL (lane v i p) (wd m row (t + 2 * i)) (wd m row (t + 2 * i + 1)))
def turnN (m : List Nat) (row : List UInt8) (t p : Nat) (v : List Nat) : Nat → List Nat
  | 0 => v
  | i + 1 => stepN m row t p (turnN m row t p v i) i
theorem turnN_length (m : List Nat) (row : List UInt8) (t p : Nat) (v : List Nat) : ∀ i, (turnN m row t p v i).length = v.length
  | 0 => rfl
  | i + 1 => by unfold turnN stepN; rw [putLn_length, turnN_length m row t p v i]
theorem Ws.turn_ {v : List Nat} (h : Ws v) (m : List Nat) (row : List UInt8) (t p : Nat) : ∀ i, Ws (turnN m row t p v i)
  | 0 => h
  | i + 1 => (Ws.turn_ h m row t p i).put_ i p (((Ws.turn_ h m row t p i).lane_ i p).g _ _)
end Go.Proofs.YtljpjckklkpipaaDoor.Bl
