/- Plain facts on what operations do to rows. -/
import Derived.Test.YtljpjckklkpipaaDoorT4
namespace Go.Proofs.YtljpjckklkpipaaDoor.Tw
open Go.RowKit Tl Ck

/-- of sorted rows a key's value is the value of the row that has it -/
theorem get_of {rows : List (ByteArray × ByteArray)} {key u : ByteArray} (hs : Srt rows) (hm : (key, u) ∈ rows) : get rows key = some u := by
  cases hg : get rows key with
  | none =>
    have := get_none hg
    have h2 : has rows key = true := by unfold has; rw [List.any_eq_true]; exact ⟨_, hm, by simp⟩
    rw [this] at h2; cases h2
  | some u' =>
    obtain ⟨_, hx⟩ := get_some hs hg
    obtain ⟨t, ht, he⟩ := List.getElem_of_mem hm
    have hl := (List.getElem?_eq_some_iff.1 hx).1
    have hx' := (List.getElem?_eq_some_iff.1 hx).2
    by_cases h1 : t < lb rows key
    · have h3 := List.pairwise_iff_getElem.1 hs t _ ht hl h1
      rw [he, hx', cmp_self] at h3; omega
    · by_cases h2 : lb rows key < t
      · have h3 := List.pairwise_iff_getElem.1 hs _ t hl ht h2
        rw [he, hx', cmp_self] at h3; omega
      · obtain rfl : t = lb rows key := by omega
        rw [he] at hx'
        injection hx' with _ hx'
        rw [hx']
theorem put_srt {rows : List (ByteArray × ByteArray)} {key u : ByteArray} (hs : Srt rows) : Srt (put rows key u) := by
  unfold put
  by_cases hh : has rows key = true
  · rw [if_pos hh]
    obtain ⟨x, hx⟩ := (has_iff hs).1 hh
    exact srt_set hs hx
  · rw [if_neg hh]
    exact srt_ins hs (by simpa using hh) u
theorem mem_put {rows : List (ByteArray × ByteArray)} {key u : ByteArray} (hs : Srt rows) : (key, u) ∈ put rows key u := by
  unfold put
  by_cases hh : has rows key = true
  · rw [if_pos hh]
    obtain ⟨x, hx⟩ := (has_iff hs).1 hh
    have hl := (List.getElem?_eq_some_iff.1 hx).1
    exact List.mem_of_getElem? (i := lb rows key) (by rw [List.getElem?_set_self hl])
  · rw [if_neg hh]; simp
theorem get_put {rows : List (ByteArray × ByteArray)} {key u : ByteArray} (hs : Srt rows) : get (put rows key u) key = some u := get_of (put_srt hs) (mem_put hs)
theorem del_srt {rows : List (ByteArray × ByteArray)} (hs : Srt rows) (i : Nat) : Srt (rows.take i ++ rows.drop (i + 1)) := srt_del hs i
theorem get_del {rows : List (ByteArray × ByteArray)} {key : ByteArray} (hs : Srt rows) (hh : has rows key = true) : get (rows.take (lb rows key) ++ rows.drop (lb rows key + 1)) key = none := by
  obtain ⟨x, hx⟩ := (has_iff hs).1 hh
  have hl := (List.getElem?_eq_some_iff.1 hx).1
  have hx' := (List.getElem?_eq_some_iff.1 hx).2
  unfold get
  rw [Option.map_eq_none_iff, List.find?_eq_none]
  intro r hr
  simp only [decide_eq_true_eq]
  intro he
  rcases List.mem_append.1 hr with h | h
  · obtain ⟨t, ht, hte⟩ := List.getElem_of_mem h
    rw [List.length_take] at ht
    rw [List.getElem_take] at hte
    have h3 := lb_lt key rows t r (by omega) (by rw [List.getElem?_eq_getElem (by omega), hte])
    rw [he, cmp_self] at h3; omega
  · obtain ⟨t, ht, hte⟩ := List.getElem_of_mem h
    rw [List.length_drop] at ht
    rw [List.getElem_drop] at hte
    have h3 := List.pairwise_iff_getElem.1 hs (lb rows key) (lb rows key + 1 + t) hl (by omega) (by omega)
    rw [hx', hte, he, cmp_self] at h3; omega

/-- what is told by an error changes nothing -/
theorem tdo_err {rows : List (ByteArray × ByteArray)} {k : Int} {key v old : ByteArray} (h : (tdo rows k key v old).2.2 ≠ 0) : (tdo rows k key v old).1 = rows ∧ (tdo rows k key v old).2.1 = ⟨#[]⟩ := by
  unfold tdo at h ⊢
  by_cases hc : chk k key v old = 0
  · rw [if_pos hc] at h ⊢
    cases hg : get rows key with
    | none =>
      rw [hg] at h
      simp only at h ⊢
      repeat' split at h
      all_goals simp_all
    | some had =>
      rw [hg] at h
      simp only at h ⊢
      repeat' split at h
      all_goals simp_all
  · rw [if_neg hc]
    exact ⟨rfl, rfl⟩
theorem put_fine {rows : List (ByteArray × ByteArray)} {key u : ByteArray} (hF : Fine rows) (h1 : 1 ≤ key.size) (h2 : key.size ≤ 16) (h3 : u.size ≤ 64) : Fine (put rows key u) := by
  intro r hr
  unfold put at hr
  split at hr
  · rcases List.mem_or_eq_of_mem_set hr with h | h
    · exact hF r h
    · subst h; exact ⟨h1, h2, h3⟩
  · rcases List.mem_append.1 hr with h | h
    · exact hF r (List.mem_of_mem_take h)
    · rcases List.mem_cons.1 h with h | h
      · subst h; exact ⟨h1, h2, h3⟩
      · exact hF r (List.mem_of_mem_drop h)
theorem chk_size {k : Int} {key v old : ByteArray} (h : chk k key v old = 0) : 1 ≤ key.size := by
  obtain ⟨_, _, _, _, _, h5⟩ := chk_ok h
  rw [empty_iff, decide_eq_false_iff_not] at h5
  omega
theorem tdo_fine {rows : List (ByteArray × ByteArray)} {k : Int} {key v old : ByteArray} (hF : Fine rows) : Fine (tdo rows k key v old).1 := by
  unfold tdo
  by_cases hc : chk k key v old = 0
  · obtain ⟨hk1, hk2, hv, hold, hk16, _⟩ := chk_ok hc
    have hk0 := chk_size hc
    rw [if_pos hc]
    cases hg : get rows key with
    | none =>
      simp only
      split
      · split
        · exact hF
        · exact put_fine hF hk0 hk16 hv
      · exact hF
    | some had =>
      simp only
      split
      · exact hF
      · split
        · exact put_fine hF hk0 hk16 hv
        · split
          · split
            · exact hF
            · exact put_fine hF hk0 hk16 (by rw [ByteArray.size_append]; omega)
          · split
            · intro r hr
              rcases List.mem_append.1 hr with h | h
              · exact hF r (List.mem_of_mem_take h)
              · exact hF r (List.mem_of_mem_drop h)
            · split
              · exact put_fine hF hk0 hk16 hv
              · exact hF
  · rw [if_neg hc]; exact hF

theorem tdo_get {rows : List (ByteArray × ByteArray)} {key u : ByteArray} (h1 : 1 ≤ key.size) (h2 : key.size ≤ 16) (hg : get rows key = some u) : tdo rows 1 key ⟨#[]⟩ ⟨#[]⟩ = (rows, u, 0) := by
  have hc : chk 1 key ⟨#[]⟩ ⟨#[]⟩ = 0 := by
    rw [chk_eq, if_pos (by omega), if_neg (by
      have : (⟨#[]⟩ : ByteArray).size = 0 := rfl
      omega), if_neg (by
      have : (⟨#[]⟩ : ByteArray).size = 0 := rfl
      omega)]
  unfold tdo
  rw [if_pos hc, hg]
  simp
theorem tdo_get_none {rows : List (ByteArray × ByteArray)} {key : ByteArray} (h1 : 1 ≤ key.size) (h2 : key.size ≤ 16) (hg : get rows key = none) : tdo rows 1 key ⟨#[]⟩ ⟨#[]⟩ = (rows, ⟨#[]⟩, 6) := by
  have hc : chk 1 key ⟨#[]⟩ ⟨#[]⟩ = 0 := by
    rw [chk_eq, if_pos (by omega), if_neg (by
      have : (⟨#[]⟩ : ByteArray).size = 0 := rfl
      omega), if_neg (by
      have : (⟨#[]⟩ : ByteArray).size = 0 := rfl
      omega)]
  unfold tdo
  rw [if_pos hc, hg]
  simp
/-- WHAT IS PUT IS READ -/
theorem read_back {rows rows' : List (ByteArray × ByteArray)} {k : Int} {key v old told : ByteArray} (hs : Srt rows) (h : tdo rows k key v old = (rows', told, 0)) :
    (k = 1 ∧ rows' = rows ∧ tdo rows' 1 key ⟨#[]⟩ ⟨#[]⟩ = (rows', told, 0)) ∨ ((k = 2 ∨ k = 5) ∧ tdo rows' 1 key ⟨#[]⟩ ⟨#[]⟩ = (rows', v, 0)) ∨
    (k = 3 ∧ (∃ pre : ByteArray, told = pre ++ v) ∧ told.size ≤ 64 ∧ tdo rows' 1 key ⟨#[]⟩ ⟨#[]⟩ = (rows', told, 0)) ∨ (k = 4 ∧ tdo rows' 1 key ⟨#[]⟩ ⟨#[]⟩ = (rows', ⟨#[]⟩, 6)) := by
  by_cases hc : chk k key v old = 0
  · obtain ⟨hk1, hk2, hv, hold, hk16, _⟩ := chk_ok hc
    have hk0 := chk_size hc
    unfold tdo at h
    rw [if_pos hc] at h
    cases hg : get rows key with
    | none =>
      rw [hg] at h
      simp only at h
      split at h
      · rename_i h23
        split at h
        · simp at h
        · simp only [Prod.mk.injEq] at h
          obtain ⟨rfl, ht, _⟩ := h
          rcases h23 with rfl | rfl
          · exact .inr (.inl ⟨.inl rfl, tdo_get hk0 hk16 (get_put hs)⟩)
          · rw [if_neg (by decide)] at ht
            subst ht
            exact .inr (.inr (.inl ⟨rfl, ⟨⟨#[]⟩, (ByteArray.empty_append (b := _)).symm⟩, hv, tdo_get hk0 hk16 (get_put hs)⟩))
      · simp at h
    | some had =>
      obtain ⟨hh, hx⟩ := get_some hs hg
      rw [hg] at h
      simp only at h
      have hk : k = 1 ∨ k = 2 ∨ k = 3 ∨ k = 4 ∨ k = 5 := by omega
      rcases hk with rfl | rfl | rfl | rfl | rfl
      · simp at h
        obtain ⟨rfl, rfl⟩ := h
        exact .inl ⟨rfl, rfl, tdo_get hk0 hk16 hg⟩
      · simp at h
        obtain ⟨rfl, rfl⟩ := h
        exact .inr (.inl ⟨.inl rfl, tdo_get hk0 hk16 (get_put hs)⟩)
      · rw [if_neg (by decide), if_neg (by decide), if_pos rfl] at h
        split at h
        · simp at h
        · simp only [Prod.mk.injEq] at h
          obtain ⟨rfl, rfl, _⟩ := h
          rename_i h64 _
          exact .inr (.inr (.inl ⟨rfl, ⟨had, rfl⟩, by simp only [ByteArray.size_append] at h64 ⊢; omega, tdo_get hk0 hk16 (get_put hs)⟩))
      · simp at h
        obtain ⟨rfl, rfl⟩ := h
        exact .inr (.inr (.inr ⟨rfl, tdo_get_none hk0 hk16 (get_del hs hh)⟩))
      · rw [if_neg (by decide), if_neg (by decide), if_neg (by decide), if_neg (by decide)] at h
        split at h
        · simp only [Prod.mk.injEq] at h
          obtain ⟨rfl, rfl, _⟩ := h
          exact .inr (.inl ⟨.inr rfl, tdo_get hk0 hk16 (get_put hs)⟩)
        · simp at h
  · unfold tdo at h
    rw [if_neg hc] at h
    simp only [Prod.mk.injEq] at h
    exact absurd h.2.2 hc
end Go.Proofs.YtljpjckklkpipaaDoor.Tw
