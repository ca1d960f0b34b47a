/- BLAKE2s' sum by definition (plain). -/
import Derived.Test.YtljpjckklkpipaaDoorBm
namespace Go.Proofs.YtljpjckklkpipaaDoor.Bl
open Go
/-- a text's bytes -/
def txt (s : ByteArray) : List Nat := s.data.toList.map UInt8.toNat
theorem txt_length (s : ByteArray) : (txt s).length = s.size := by unfold txt; rw [List.length_map, Array.length_toList]; rfl
theorem txt_by (s : ByteArray) : By (txt s) := by
  intro x hx
  unfold txt at hx
  rw [List.mem_map] at hx
  obtain ⟨c, _, rfl⟩ := hx
  exact c.toNat_lt
/-- as far as a block, with noughts behind -/
def padB (l : List Nat) : List Nat := l ++ List.replicate (64 - l.length) 0
theorem padB_length {l : List Nat} (h : l.length ≤ 64) : (padB l).length = 64 := by simp [padB]; omega
theorem padB_by {l : List Nat} (h : By l) : By (padB l) := by
  intro x hx
  unfold padB at hx
  rcases List.mem_append.1 hx with h1 | h1
  · exact h x h1
  · rw [(List.mem_replicate.1 h1).2]; decide
theorem By.take {l : List Nat} (h : By l) (n : Nat) : By (l.take n) := fun x hx => h x (List.mem_of_mem_take hx)
theorem By.drop {l : List Nat} (h : By l) (n : Nat) : By (l.drop n) := fun x hx => h x (List.mem_of_mem_drop hx)
def blkT (h : List Nat) (t : Nat) (l : List Nat) : List Nat := blockS h (padB (l.take 64)) (t + (l.take 64).length) (l.drop 64).isEmpty
def sumN : Nat → List Nat → Nat → List Nat → List Nat
  | 0, h, _, _ => h
  | n + 1, h, t, l => if l.isEmpty then h else sumN n (blkT h t l) (t + (l.take 64).length) (l.drop 64)
/-- enough rounds -/
theorem sumN_enough : ∀ (n m : Nat) (h : List Nat) (t : Nat) (l : List Nat), l.length ≤ n → l.length ≤ m → sumN n h t l = sumN m h t l
  | 0, 0, _, _, _, _, _ => rfl
  | 0, m + 1, h, t, l, hn, _ => by
    obtain rfl : l = [] := List.eq_nil_of_length_eq_zero (by omega)
    simp [sumN]
  | n + 1, 0, h, t, l, _, hm => by
    obtain rfl : l = [] := List.eq_nil_of_length_eq_zero (by omega)
    simp [sumN]
  | n + 1, m + 1, h, t, l, hn, hm => by
    unfold sumN
    split
    · rfl
    · rename_i hne
      have hp : 0 < l.length := by
        rw [List.isEmpty_iff] at hne
        exact List.length_pos_iff.2 hne
      exact sumN_enough n m _ _ _ (by rw [List.length_drop]; omega) (by rw [List.length_drop]; omega)
def sumR (h : List Nat) (t : Nat) (l : List Nat) : List Nat := sumN l.length h t l
theorem sumR_nil (h : List Nat) (t : Nat) : sumR h t [] = h := rfl
theorem sumR_step (h : List Nat) (t : Nat) {l : List Nat} (hl : l ≠ []) : sumR h t l = sumR (blkT h t l) (t + (l.take 64).length) (l.drop 64) := by
  have hp : 0 < l.length := List.length_pos_iff.2 hl
  unfold sumR
  obtain ⟨n, hn⟩ : ∃ n, l.length = n + 1 := ⟨l.length - 1, by omega⟩
  rw [hn]
  conv => lhs; unfold sumN
  rw [if_neg (by rw [List.isEmpty_iff]; exact hl)]
  exact sumN_enough _ _ _ _ _ (by rw [List.length_drop]; omega) (Nat.le_refl _)
def h0 (kl : Nat) : List Nat := iv.set 0 (el iv 0 ^^^ (16842784 ^^^ kl * 256))
/-- h behind all blocks -/
def sumH (key l : List Nat) : List Nat := if key.isEmpty then sumR (blkT (h0 0) 0 l) (l.take 64).length (l.drop 64) else sumR (blockS (h0 key.length) (padB key) 64 l.isEmpty) 64 l
def outB (h : List Nat) : List Nat := (List.range 32).map fun i => el h (i / 4) / 2 ^ (8 * (i % 4)) % 256
/-- THE SUM -/
def sumB (key text : ByteArray) : ByteArray := ⟨((outB (sumH (txt key) (txt text))).map UInt8.ofNat).toArray⟩
theorem h0_length (kl : Nat) : (h0 kl).length = 8 := by simp [h0, iv]
theorem h0_ws {kl : Nat} (h : kl ≤ 32) : Ws (h0 kl) := iv_ws.set_ 0 (xor_lt (iv_ws.at_ 0) (xor_lt (by decide) (by omega)))
theorem blkT_length (h : List Nat) (t : Nat) (l : List Nat) : (blkT h t l).length = 8 := blockS_length _ _ _ _
theorem blkT_ws {h : List Nat} (hw : Ws h) (t : Nat) (l : List Nat) : Ws (blkT h t l) := blockS_ws hw _ _ _
end Go.Proofs.YtljpjckklkpipaaDoor.Bl
