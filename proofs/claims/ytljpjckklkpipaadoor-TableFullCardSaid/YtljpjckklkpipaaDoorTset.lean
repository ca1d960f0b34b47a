/- Walks of package table: set, whatever the table and the key. -/
import Derived.Test.YtljpjckklkpipaaDoorTy
import Derived.Test.YtljpjckklkpipaaDoorTz
namespace Go.Proofs.YtljpjckklkpipaaDoor.Tw
open Go.RowKit Wd Tl

/-- a key has a value -/
def put (rows : List (ByteArray × ByteArray)) (key u : ByteArray) : List (ByteArray × ByteArray) :=
  if has rows key = true then rows.set (lb rows key) (key, u) else rows.take (lb rows key) ++ (key, u) :: rows.drop (lb rows key)

/-- A call has turned the table's own blocks alone, and left it with these rows. -/
def To (w : World) (tb : Nat) (g : Option Nat) (rows : List (ByteArray × ByteArray)) (w' : World) : Prop :=
  ∃ v' g', Tab w' tb v' g' rows ∧ (g' = g ∨ ∃ b, g' = some b ∧ w.heap.size ≤ b) ∧ Kp (fun k => k = tb ∨ some k = g) w w'

theorem To.same {w w' : World} {tb : Nat} {v : Value} {g : Option Nat} {rows : List (ByteArray × ByteArray)} (h : Tab w tb v g rows) (hb : Below w.heap.size w w') : To w tb g rows w' :=
  ⟨v, g, h.below hb, .inl rfl, Kp.of_below hb⟩
theorem To.of_below {w w1 w' : World} {tb : Nat} {g : Option Nat} {rows : List (ByteArray × ByteArray)} (hb : Below w.heap.size w w1) (h : To w1 tb g rows w') : To w tb g rows w' := by
  obtain ⟨v', g', h1, h2, h3⟩ := h
  refine ⟨v', g', h1, ?_, (Kp.of_below hb).trans h3⟩
  rcases h2 with h2 | ⟨b, h2, h4⟩
  · exact .inl h2
  · exact .inr ⟨b, h2, Nat.le_trans hb.size h4⟩
theorem To.below {w w1 w' : World} {tb : Nat} {g : Option Nat} {rows : List (ByteArray × ByteArray)} (h : To w tb g rows w1) (hb : Below w1.heap.size w1 w') : To w tb g rows w' := by
  obtain ⟨v', g', h1, h2, h3⟩ := h
  exact ⟨v', g', h1.below hb, h2, h3.trans (Kp.of_below hb)⟩

theorem set_any (tb : Nat) (v : Value) (g : Option Nat) (rows : List (ByteArray × ByteArray)) (key u : ByteArray) (w : World) (h : Tab w tb v g rows) (hl : has rows key = true ∨ rows.length < 16) :
    Calls Tryd.prog 100 #[.pointer (some ⟨tb, 0, none⟩), .string key, .string u] w fun e w' => e = .returned (.int .i64 0) ∧ To w tb g (put rows key u) w' := by
  by_cases hh : has rows key = true
  · obtain ⟨x, hx⟩ := (has_iff h.srt).1 hh
    refine (set_there tb v g rows key x u w h hx).mono ?_
    rintro e w' ⟨he, h1, h2⟩
    refine ⟨he, v, g, ?_, .inl rfl, h2.mono (fun k hk => .inr hk)⟩
    unfold put
    rw [if_pos hh]
    exact h1
  · have hh' : has rows key = false := by simpa using hh
    have hl' : rows.length < 16 := by rcases hl with h | h; exact absurd h hh; exact h
    have fin : ∀ (e : Ending) (w' : World), (e = .returned (.int .i64 0) ∧ ∃ v' g', Tab w' tb v' (some g') (rows.take (lb rows key) ++ (key, u) :: rows.drop (lb rows key)) ∧ w.heap.size ≤ g' ∧ Kp (fun k => k = tb) w w') →
        e = .returned (.int .i64 0) ∧ To w tb g (put rows key u) w' := by
      rintro e w' ⟨he, v', g', h1, h2, h3⟩
      refine ⟨he, v', some g', ?_, .inr ⟨g', rfl, h2⟩, h3.mono (fun k hk => .inl hk)⟩
      unfold put
      rw [if_neg hh]
      exact h1
    have fin2 : lb rows key = rows.length → ∀ (e : Ending) (w' : World), (e = .returned (.int .i64 0) ∧ ∃ v' g', Tab w' tb v' (some g') (rows ++ [(key, u)]) ∧ w.heap.size ≤ g' ∧ Kp (fun k => k = tb) w w') →
        e = .returned (.int .i64 0) ∧ To w tb g (put rows key u) w' := by
      intro hlb e w' hx
      refine fin e w' ?_
      rw [hlb, List.take_length, List.drop_length]
      exact hx
    rcases h.row with ⟨rfl, rfl, hr⟩ | ⟨b, cap, cur, rfl, rfl, r1, r2, r3⟩
    · exact (set_new0 tb rows key u w h hh' hl' (by have := lb_le rows key; subst hr; simpa using this)).mono (fin2 (by have := lb_le rows key; subst hr; simpa using this))
    · by_cases hi : lb rows key < rows.length
      · exact (set_new3 tb b cap rows key u w h hh' hl' hi).mono fin
      · have hi' : lb rows key = rows.length := by have := lb_le rows key; omega
        by_cases hc : cap = rows.length
        · exact (set_new1 tb b cap rows key u w h hh' hl' hi' hc).mono (fin2 hi')
        · exact (set_new2 tb b cap rows key u w h hh' hl' hi' (by omega)).mono (fin2 hi')
end Go.Proofs.YtljpjckklkpipaaDoor.Tw
