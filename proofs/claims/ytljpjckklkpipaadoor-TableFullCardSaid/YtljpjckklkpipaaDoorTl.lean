/- The plain law of tables: rows by their keys, where a key stands; no program in sight. -/
import Derived.Lib.Bytealg
namespace Go.Proofs.YtljpjckklkpipaaDoor.Tl

/-- the order of texts -/
def cmp (a b : ByteArray) : Int := Lib.compareBytes a.data.toList b.data.toList

theorem cb_self : ∀ a : List UInt8, Lib.compareBytes a a = 0
  | [] => rfl
  | a :: as => by
    unfold Lib.compareBytes
    rw [if_neg (by exact UInt8.lt_irrefl a), if_neg (by exact UInt8.lt_irrefl a)]
    exact cb_self as
theorem cb_neg : ∀ a b : List UInt8, Lib.compareBytes b a = - Lib.compareBytes a b
  | [], [] => rfl
  | [], _ :: _ => by simp [Lib.compareBytes]
  | _ :: _, [] => by simp [Lib.compareBytes]
  | a :: as, b :: bs => by
    unfold Lib.compareBytes
    by_cases h1 : a < b
    · have h2 : ¬ b < a := fun h => UInt8.lt_asymm h1 h
      rw [if_neg h2, if_pos h1, if_pos h1]; rfl
    · by_cases h2 : b < a
      · rw [if_pos h2, if_neg h1, if_pos h2]
      · rw [if_neg h2, if_neg h1, if_neg h1, if_neg h2]
        exact cb_neg as bs
theorem cb_eq : ∀ a b : List UInt8, Lib.compareBytes a b = 0 → a = b
  | [], [], _ => rfl
  | [], _ :: _, h => by simp [Lib.compareBytes] at h
  | _ :: _, [], h => by simp [Lib.compareBytes] at h
  | a :: as, b :: bs, h => by
    unfold Lib.compareBytes at h
    by_cases h1 : a < b
    · rw [if_pos h1] at h; omega
    · by_cases h2 : b < a
      · rw [if_neg h1, if_pos h2] at h; omega
      · rw [if_neg h1, if_neg h2] at h
        have e : a = b := UInt8.le_antisymm (UInt8.not_lt.1 h2) (UInt8.not_lt.1 h1)
        rw [e, cb_eq as bs h]
theorem cb_lt_trans : ∀ a b c : List UInt8, Lib.compareBytes a b < 0 → Lib.compareBytes b c < 0 → Lib.compareBytes a c < 0
  | [], [], _, h, _ => by simp [Lib.compareBytes] at h
  | [], _ :: _, [], _, h => by simp [Lib.compareBytes] at h
  | [], _ :: _, _ :: _, _, _ => by simp [Lib.compareBytes]
  | _ :: _, [], _, h, _ => by simp [Lib.compareBytes] at h
  | _ :: _, _ :: _, [], _, h => by simp [Lib.compareBytes] at h
  | a :: as, b :: bs, c :: cs, h, k => by
    unfold Lib.compareBytes at h k ⊢
    by_cases h1 : a < b
    · by_cases k1 : b < c
      · rw [if_pos (UInt8.lt_trans h1 k1)]; omega
      · by_cases k2 : c < b
        · rw [if_neg k1, if_pos k2] at k; omega
        · have e : b = c := UInt8.le_antisymm (UInt8.not_lt.1 k2) (UInt8.not_lt.1 k1)
          rw [← e, if_pos h1]; omega
    · by_cases h2 : b < a
      · rw [if_neg h1, if_pos h2] at h; omega
      · have e : a = b := UInt8.le_antisymm (UInt8.not_lt.1 h2) (UInt8.not_lt.1 h1)
        rw [if_neg h1, if_neg h2] at h
        rw [e]
        by_cases k1 : b < c
        · rw [if_pos k1]; omega
        · by_cases k2 : c < b
          · rw [if_neg k1, if_pos k2] at k; omega
          · rw [if_neg k1, if_neg k2] at k ⊢
            exact cb_lt_trans as bs cs h k
theorem cmp_self (a : ByteArray) : cmp a a = 0 := cb_self _
theorem cmp_neg (a b : ByteArray) : cmp b a = - cmp a b := cb_neg _ _
theorem cmp_eq {a b : ByteArray} (h : cmp a b = 0) : a = b := by
  have := cb_eq _ _ h
  cases a; cases b
  simp at this
  rw [this]
theorem cmp_trans {a b c : ByteArray} (h : cmp a b < 0) (k : cmp b c < 0) : cmp a c < 0 := cb_lt_trans _ _ _ h k

/-! ### rows -/
def Srt (rows : List (ByteArray × ByteArray)) : Prop := rows.Pairwise fun r s => cmp r.1 s.1 < 0
/-- where a key's row stands, or would -/
def lb (rows : List (ByteArray × ByteArray)) (k : ByteArray) : Nat := (rows.takeWhile fun r => decide (cmp r.1 k < 0)).length
def has (rows : List (ByteArray × ByteArray)) (k : ByteArray) : Bool := rows.any fun r => decide (r.1 = k)

theorem lb_le (rows : List (ByteArray × ByteArray)) (k : ByteArray) : lb rows k ≤ rows.length := by
  unfold lb
  exact (List.takeWhile_sublist _).length_le
theorem lb_of (k : ByteArray) : ∀ (rows : List (ByteArray × ByteArray)) (i : Nat), i ≤ rows.length → (∀ t r, t < i → rows[t]? = some r → cmp r.1 k < 0) → (∀ r, rows[i]? = some r → ¬ cmp r.1 k < 0) → lb rows k = i
  | [], i, hi, _, _ => by simp [lb] at hi ⊢; omega
  | r :: rows, 0, _, _, h2 => by
    have := h2 r rfl
    simp [lb, this]
  | r :: rows, i + 1, hi, h1, h2 => by
    have h0 := h1 0 r (by omega) rfl
    have ih := lb_of k rows i (by simpa using hi) (fun t r' ht hr => h1 (t + 1) r' (by omega) (by simpa using hr)) (fun r' hr => h2 r' (by simpa using hr))
    unfold lb at ih ⊢
    rw [List.takeWhile_cons, if_pos (by simpa using h0), List.length_cons, ih]
theorem lb_lt (k : ByteArray) : ∀ (rows : List (ByteArray × ByteArray)) (t : Nat) (r : ByteArray × ByteArray), t < lb rows k → rows[t]? = some r → cmp r.1 k < 0
  | [], t, r, _, h => by simp at h
  | x :: rows, t, r, ht, hr => by
    unfold lb at ht
    rw [List.takeWhile_cons] at ht
    split at ht
    · rename_i hx
      match t with
      | 0 => simp at hr; subst hr; simpa using hx
      | t + 1 => exact lb_lt k rows t r (by unfold lb; simpa using ht) (by simpa using hr)
    · simp at ht
theorem lb_ge (k : ByteArray) : ∀ (rows : List (ByteArray × ByteArray)), Srt rows → ∀ (t : Nat) (r : ByteArray × ByteArray), lb rows k ≤ t → rows[t]? = some r → ¬ cmp r.1 k < 0
  | [], _, t, r, _, h => by simp at h
  | x :: rows, hs, t, r, ht, hr => by
    obtain ⟨h1, h2⟩ := List.pairwise_cons.1 hs
    unfold lb at ht
    rw [List.takeWhile_cons] at ht
    split at ht
    · match t with
      | 0 => simp at ht
      | t + 1 => exact lb_ge k rows h2 t r (by unfold lb; simpa using ht) (by simpa using hr)
    · rename_i hx
      match t with
      | 0 => simp at hr; subst hr; simpa using hx
      | t + 1 =>
        intro hc
        have := h1 r (List.mem_of_getElem? (by simpa using hr))
        exact hx (by simpa using cmp_trans this hc)
/-- is the key there? -/
theorem has_iff {rows : List (ByteArray × ByteArray)} {k : ByteArray} (hs : Srt rows) : has rows k = true ↔ ∃ v, rows[lb rows k]? = some (k, v) := by
  unfold has
  rw [List.any_eq_true]
  constructor
  · rintro ⟨⟨k', v⟩, hm, hk⟩
    obtain rfl : k' = k := by simpa using hk
    obtain ⟨t, ht, he⟩ := List.getElem_of_mem hm
    have h1 : ¬ t < lb rows k' := fun h => by
      have := lb_lt k' rows t (k', v) h (by rw [List.getElem?_eq_getElem ht, he])
      rw [cmp_self] at this; omega
    have h2 : ¬ lb rows k' < t := fun h => by
      have hl : lb rows k' < rows.length := by omega
      have h3 := List.pairwise_iff_getElem.1 hs (lb rows k') t hl ht h
      rw [he] at h3
      exact lb_ge k' rows hs (lb rows k') _ (Nat.le_refl _) (List.getElem?_eq_getElem hl) h3
    obtain rfl : t = lb rows k' := by omega
    exact ⟨v, by rw [List.getElem?_eq_getElem ht, he]⟩
  · rintro ⟨v, hv⟩
    exact ⟨(k, v), List.mem_of_getElem? hv, by simp⟩
theorem has_false {rows : List (ByteArray × ByteArray)} {k : ByteArray} (hs : Srt rows) (h : has rows k = false) {r : ByteArray × ByteArray} (hr : rows[lb rows k]? = some r) : 0 < cmp r.1 k := by
  have h1 := lb_ge k rows hs _ _ (Nat.le_refl _) hr
  have h2 : cmp r.1 k ≠ 0 := fun e => by
    have := cmp_eq e
    have h3 := (has_iff hs).2 ⟨r.2, by rw [hr, ← this]⟩
    rw [h] at h3; cases h3
  omega
end Go.Proofs.YtljpjckklkpipaaDoor.Tl
