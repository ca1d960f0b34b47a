/- BLAKE2s' blocks by definition (plain). -/
import Derived.Test.YtljpjckklkpipaaDoorBl
namespace Go.Proofs.YtljpjckklkpipaaDoor.Bl
open Go
/-- an element of a list of numbers -/
abbrev el (v : List Nat) (i : Nat) : Nat := v[i]?.getD 0
theorem el_map (n : Nat) (f : Nat → Nat) (i : Nat) (h : i < n) : el ((List.range n).map f) i = f i := by
  simp [el, h]
def iv : List Nat := [1779033703, 3144134277, 1013904242, 2773480762, 1359893119, 2600822924, 528734635, 1541459225]
theorem iv_ws : Ws iv := by unfold Ws iv; decide
def rowsL : List (List UInt8) := [
  [48, 49, 50, 51, 52, 53, 54, 55, 56, 57, 97, 98, 99, 100, 101, 102],
  [101, 97, 52, 56, 57, 102, 100, 54, 49, 99, 48, 50, 98, 55, 53, 51],
  [98, 56, 99, 48, 53, 50, 102, 100, 97, 101, 51, 54, 55, 49, 57, 52],
  [55, 57, 51, 49, 100, 99, 98, 101, 50, 54, 53, 97, 52, 48, 102, 56],
  [57, 48, 53, 55, 50, 52, 97, 102, 101, 49, 98, 99, 54, 56, 51, 100],
  [50, 99, 54, 97, 48, 98, 56, 51, 52, 100, 55, 53, 102, 101, 49, 57],
  [99, 53, 49, 102, 101, 100, 52, 97, 48, 55, 54, 51, 57, 50, 56, 98],
  [100, 98, 55, 101, 99, 49, 51, 57, 53, 48, 102, 52, 56, 54, 50, 97],
  [54, 102, 101, 57, 98, 51, 48, 56, 99, 50, 100, 55, 49, 52, 97, 53],
  [97, 50, 56, 52, 55, 54, 49, 53, 102, 98, 57, 101, 51, 99, 100, 48]]
/-- word k of a block of which i bytes have come -/
def mpart (b : List Nat) (i k : Nat) : Nat := (if 4 * k < i then el b (4 * k) else 0) + (if 4 * k + 1 < i then el b (4 * k + 1) * 256 else 0) + (if 4 * k + 2 < i then el b (4 * k + 2) * 65536 else 0) + (if 4 * k + 3 < i then el b (4 * k + 3) * 16777216 else 0)
def mwd (b : List Nat) (i : Nat) : List Nat := (List.range 16).map (mpart b i)
def By (b : List Nat) : Prop := ∀ x ∈ b, x < 256
theorem By.el {b : List Nat} (h : By b) (i : Nat) : el b i < 256 := by
  unfold Bl.el
  cases e : b[i]? with
  | none => simp
  | some x => exact h x (List.mem_of_getElem? e)
theorem mwd_length (b : List Nat) (i : Nat) : (mwd b i).length = 16 := by simp [mwd]
theorem mwd_ws {b : List Nat} (h : By b) (i : Nat) : Ws (mwd b i) := by
  intro x hx
  unfold mwd at hx
  rw [List.mem_map] at hx
  obtain ⟨k, _, rfl⟩ := hx
  have h0 := h.el (4 * k)
  have h1 := h.el (4 * k + 1)
  have h2 := h.el (4 * k + 2)
  have h3 := h.el (4 * k + 3)
  unfold mpart
  split <;> split <;> split <;> split <;> omega
/-- a byte more: the word's old value, and its new one -/
theorem mwd_old {b : List Nat} (h : By b) (q r : Nat) (hq : q < 16) (hr : r < 4) : el (mwd b (4 * q + r)) q < 256 ^ r ∧ el (mwd b (4 * q + r)) q + el b (4 * q + r) * 256 ^ r = mpart b (4 * q + r + 1) q := by
  rw [mwd, el_map _ _ _ hq]
  have h0 := h.el (4 * q)
  have h1 := h.el (4 * q + 1)
  have h2 := h.el (4 * q + 2)
  have h3 := h.el (4 * q + 3)
  unfold mpart
  have hr' : r = 0 ∨ r = 1 ∨ r = 2 ∨ r = 3 := by omega
  rcases hr' with rfl | rfl | rfl | rfl
  all_goals
    simp only [Nat.reducePow, Nat.add_zero, Nat.pow_zero, Nat.pow_one]
    constructor
    · split <;> split <;> split <;> split <;> omega
    · split <;> split <;> split <;> split <;> (first | omega | (split <;> split <;> split <;> split <;> omega))
theorem mwd_set {b : List Nat} (q r : Nat) (hq : q < 16) (hr : r < 4) : (mwd b (4 * q + r)).set q (mpart b (4 * q + r + 1) q) = mwd b (4 * q + r + 1) := by
  apply List.ext_getElem?
  intro j
  rw [List.getElem?_set]
  by_cases hj : q = j
  · subst hj
    rw [if_pos rfl, if_pos (by rw [mwd_length]; exact hq)]
    simp [mwd, hq]
  · rw [if_neg hj]
    by_cases hj2 : j < 16
    · simp only [mwd, List.getElem?_map, List.getElem?_range hj2, Option.map_some]
      congr 1
      unfold mpart
      have e0 : (4 * j < 4 * q + r) ↔ (4 * j < 4 * q + r + 1) := by omega
      have e1 : (4 * j + 1 < 4 * q + r) ↔ (4 * j + 1 < 4 * q + r + 1) := by omega
      have e2 : (4 * j + 2 < 4 * q + r) ↔ (4 * j + 2 < 4 * q + r + 1) := by omega
      have e3 : (4 * j + 3 < 4 * q + r) ↔ (4 * j + 3 < 4 * q + r + 1) := by omega
      simp only [e0, e1, e2, e3]
    · rw [List.getElem?_eq_none (by rw [mwd_length]; omega), List.getElem?_eq_none (by rw [mwd_length]; omega)]
/-- the first state of a block, as far as i -/
def vpart (h : List Nat) (i : Nat) : List Nat := (List.range 16).map fun j => if j < 8 then (if j < i then el h j else 0) else (if j < 8 + i then el iv (j - 8) else 0)
theorem vpart_length (h : List Nat) (i : Nat) : (vpart h i).length = 16 := by simp [vpart]
theorem vpart_set (h : List Nat) (i : Nat) (hi : i < 8) : ((vpart h i).set i (el h i)).set (8 + i) (el iv i) = vpart h (i + 1) := by
  apply List.ext_getElem?
  intro j
  rw [List.getElem?_set, List.getElem?_set]
  simp only [List.length_set, vpart_length]
  by_cases h1 : 8 + i = j
  · subst h1
    rw [if_pos rfl, if_pos (by omega)]
    simp only [vpart, List.getElem?_map, List.getElem?_range (show 8 + i < 16 by omega), Option.map_some]
    rw [if_neg (by omega), if_pos (by omega), Nat.add_sub_cancel_left]
  · rw [if_neg h1]
    by_cases h2 : i = j
    · subst h2
      rw [if_pos rfl, if_pos (by omega)]
      simp only [vpart, List.getElem?_map, List.getElem?_range (show i < 16 by omega), Option.map_some]
      rw [if_pos hi, if_pos (by omega)]
    · rw [if_neg h2]
      by_cases h3 : j < 16
      · simp only [vpart, List.getElem?_map, List.getElem?_range h3, Option.map_some]
        congr 1
        by_cases h4 : j < 8
        · rw [if_pos h4, if_pos h4]
          by_cases h5 : j < i
          · rw [if_pos h5, if_pos (by omega)]
          · rw [if_neg h5, if_neg (by omega)]
        · rw [if_neg h4, if_neg h4]
          by_cases h5 : j < 8 + i
          · rw [if_pos h5, if_pos (by omega)]
          · rw [if_neg h5, if_neg (by omega)]
      · rw [List.getElem?_eq_none (by rw [vpart_length]; omega), List.getElem?_eq_none (by rw [vpart_length]; omega)]
theorem vpart_ws {h : List Nat} (hw : Ws h) (i : Nat) : Ws (vpart h i) := by
  intro x hx
  unfold vpart at hx
  rw [List.mem_map] at hx
  obtain ⟨j, _, rfl⟩ := hx
  have h1 := hw.at_ j
  have h2 := iv_ws.at_ (j - 8)
  split <;> split <;> first | exact h1 | exact h2 | decide
/-- the counters and the last block's mark -/
def vcnt (h : List Nat) (t : Nat) : List Nat := ((vpart h 8).set 12 (el (vpart h 8) 12 ^^^ t % 4294967296)).set 13 (el (vpart h 8) 13 ^^^ t / 4294967296 % 4294967296)
def vlast (h : List Nat) (t : Nat) (last : Bool) : List Nat := if last = true then (vcnt h t).set 14 (4294967295 - el (vcnt h t) 14) else vcnt h t
def roundsN (m : List Nat) (v : List Nat) : Nat → List Nat
  | 0 => v
  | k + 1 => turnN m (rowsL[k]?.getD []) 8 1 (turnN m (rowsL[k]?.getD []) 0 0 (roundsN m v k) 4) 4
def outpart (h v : List Nat) (i : Nat) : List Nat := (List.range 8).map fun j => if j < i then el h j ^^^ (el v j ^^^ el v (8 + j)) else el h j
/-- h behind a block -/
def blockS (h b : List Nat) (t : Nat) (last : Bool) : List Nat := outpart h (roundsN (mwd b 64) (vlast h t last) 10) 8
theorem vcnt_length (h : List Nat) (t : Nat) : (vcnt h t).length = 16 := by simp [vcnt, vpart_length]
theorem vlast_length (h : List Nat) (t : Nat) (last : Bool) : (vlast h t last).length = 16 := by unfold vlast; split <;> simp [vcnt_length]
theorem rounds_length (m v : List Nat) : ∀ k, (roundsN m v k).length = v.length
  | 0 => rfl
  | k + 1 => by unfold roundsN; rw [turnN_length, turnN_length, rounds_length m v k]
theorem vcnt_ws {h : List Nat} (hw : Ws h) (t : Nat) : Ws (vcnt h t) :=
  ((vpart_ws hw 8).set_ 12 (xor_lt ((vpart_ws hw 8).at_ _) (Nat.mod_lt _ (by decide)))).set_ 13 (xor_lt ((vpart_ws hw 8).at_ _) (Nat.mod_lt _ (by decide)))
theorem vlast_ws {h : List Nat} (hw : Ws h) (t : Nat) (last : Bool) : Ws (vlast h t last) := by
  unfold vlast
  split
  · exact (vcnt_ws hw t).set_ 14 (by omega)
  · exact vcnt_ws hw t
theorem rounds_ws (m : List Nat) {v : List Nat} (h : Ws v) : ∀ k, Ws (roundsN m v k)
  | 0 => h
  | k + 1 => ((rounds_ws m h k).turn_ m _ 0 0 4).turn_ m _ 8 1 4
theorem outpart_length (h v : List Nat) (i : Nat) : (outpart h v i).length = 8 := by simp [outpart]
theorem outpart_ws {h v : List Nat} (hh : Ws h) (hv : Ws v) (i : Nat) : Ws (outpart h v i) := by
  intro x hx
  unfold outpart at hx
  rw [List.mem_map] at hx
  obtain ⟨j, _, rfl⟩ := hx
  split
  · exact xor_lt (hh.at_ _) (xor_lt (hv.at_ _) (hv.at_ _))
  · exact hh.at_ _
theorem outpart_set (h v : List Nat) (i : Nat) (hi : i < 8) : (outpart h v i).set i (el h i ^^^ (el v i ^^^ el v (8 + i))) = outpart h v (i + 1) := by
  apply List.ext_getElem?
  intro j
  rw [List.getElem?_set]
  by_cases h1 : i = j
  · subst h1
    rw [if_pos rfl, if_pos (by rw [outpart_length]; exact hi)]
    simp [outpart, hi]
  · rw [if_neg h1]
    by_cases h2 : j < 8
    · simp only [outpart, List.getElem?_map, List.getElem?_range h2, Option.map_some]
      congr 1
      by_cases h3 : j < i
      · rw [if_pos h3, if_pos (by omega)]
      · rw [if_neg h3, if_neg (by omega)]
    · rw [List.getElem?_eq_none (by rw [outpart_length]; omega), List.getElem?_eq_none (by rw [outpart_length]; omega)]
theorem outpart_at (h v : List Nat) (i : Nat) (hi : i < 8) : el (outpart h v i) i = el h i := by
  unfold outpart
  rw [el_map _ _ _ hi, if_neg (by omega)]
theorem outpart_zero (h v : List Nat) (hl : h.length = 8) : outpart h v 0 = h := by
  apply List.ext_getElem?
  intro j
  by_cases h2 : j < 8
  · simp only [outpart, List.getElem?_map, List.getElem?_range h2, Option.map_some]
    rw [if_neg (by omega), List.getElem?_eq_getElem (by omega)]
    simp [el, List.getElem?_eq_getElem (show j < h.length by omega)]
  · rw [List.getElem?_eq_none (by rw [outpart_length]; omega), List.getElem?_eq_none (by omega)]
theorem blockS_length (h b : List Nat) (t : Nat) (last : Bool) : (blockS h b t last).length = 8 := outpart_length _ _ _
theorem blockS_ws {h : List Nat} (hh : Ws h) (b : List Nat) (t : Nat) (last : Bool) : Ws (blockS h b t last) := outpart_ws hh (rounds_ws _ (vlast_ws hh t last) 10) 8
end Go.Proofs.YtljpjckklkpipaaDoor.Bl
