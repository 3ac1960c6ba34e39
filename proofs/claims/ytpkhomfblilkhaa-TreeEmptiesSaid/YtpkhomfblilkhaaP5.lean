/- Trees in plain Lean: how great they are; what the walks lean on. -/
import Derived.Test.YtpkhomfblilkhaaP4
namespace Go.Proofs.Ytpkhomfblilkhaa.E
set_option linter.all false

/-- No part has too much. -/
def Lim : (d : Nat) → Tr d → Prop
  | 0, es => List.length (α := Ent) es ≤ 12
  | d + 1, t => t.2.length ≤ 20 ∧ ∀ u ∈ t.2, Lim d u
/-- The uppermost part alone may have one too much. -/
def Lim1 : (d : Nat) → Tr d → Prop
  | 0, es => List.length (α := Ent) es ≤ 13
  | d + 1, t => t.2.length ≤ 21 ∧ ∀ u ∈ t.2, Lim d u
theorem lim_1 : ∀ {d : Nat} {t : Tr d}, Lim d t → Lim1 d t
  | 0, es, h => by show List.length (α := Ent) es ≤ 13; have : List.length (α := Ent) es ≤ 12 := h; omega
  | d + 1, t, h => ⟨by have := h.1; omega, h.2⟩
theorem lim0_half {es : List Ent} (h : es.length ≤ 13) (h12 : ¬ es.length ≤ 12) : (es.take (es.length / 2)).length ≤ 12 ∧ (es.drop (es.length / 2)).length ≤ 12 := by
  rw [List.length_take, List.length_drop]; omega
theorem set_lim0 {es : List Ent} (e : Ent) (h : es.length ≤ 12) : List.length (α := Ent) (setT 0 es e) ≤ 13 := by
  have hll := lo_le (g := Ent.n) es e.n
  cases hat : isAt Ent.n es e.n
  · rw [set0_no hat, List.length_append, List.length_cons, List.length_take, List.length_drop]; omega
  · rw [set0_yes hat, List.length_set]; omega
theorem cut_lim : ∀ (d : Nat) {u : Tr d}, Lim1 d u → (cutT d u = none → Lim d u) ∧ (∀ a b k, cutT d u = some (a, b, k) → Lim d a ∧ Lim d b)
  | 0, u, h => by
    have h' : List.length (α := Ent) u ≤ 13 := h
    constructor
    · intro hc
      by_cases h12 : List.length (α := Ent) u ≤ 12
      · exact h12
      · rw [cut0_yes h12] at hc; cases hc
    · intro a b k hc
      by_cases h12 : List.length (α := Ent) u ≤ 12
      · rw [cut0_no h12] at hc; cases hc
      · rw [cut0_yes h12] at hc
        cases Option.some.inj hc
        exact lim0_half h' h12
  | d + 1, u, h => by
    constructor
    · intro hc
      by_cases h20 : u.2.length ≤ 20
      · exact ⟨h20, h.2⟩
      · rw [cutI_yes h20] at hc; cases hc
    · intro a b k hc
      have hl := h.1
      by_cases h20 : u.2.length ≤ 20
      · rw [cutI_no h20] at hc; cases hc
      · rw [cutI_yes h20] at hc
        cases Option.some.inj hc
        exact ⟨⟨by show (u.2.take _).length ≤ 20; rw [List.length_take]; omega, fun v hv => h.2 v (List.mem_of_mem_take hv)⟩, ⟨by show (u.2.drop _).length ≤ 20; rw [List.length_drop]; omega, fun v hv => h.2 v (List.mem_of_mem_drop hv)⟩⟩
theorem set_lim (e : Ent) : ∀ (d : Nat) {t : Tr d}, Lim d t → Lim1 d (setT d t e)
  | 0, es, h => set_lim0 e h
  | d + 1, t, h => by
    cases hc : t.2[up Ky.n t.1 e.n]? with
    | none =>
      have : setT (d + 1) t e = t := by rw [setT, hc]
      rw [this]; exact lim_1 h
    | some u =>
      obtain ⟨hil, hu⟩ := List.getElem?_eq_some_iff.1 hc
      have hset := set_at_kid (e := e) hc
      obtain ⟨i, hi⟩ : ∃ i, i = up Ky.n t.1 e.n := ⟨_, rfl⟩
      rw [← hi] at hset hc hil
      rw [hset]
      have hlu : Lim d u := h.2 u (List.mem_of_getElem? hc)
      have hl1 := set_lim e d hlu
      obtain ⟨k1, k2⟩ := cut_lim d hl1
      have hi2 : i < (t.2.set i (setT d u e)).length := by rw [List.length_set]; exact hil
      have hgi : (t.2.set i (setT d u e))[i] = setT d u e := List.getElem_set_self _
      cases hcc : cutT d (setT d u e) with
      | none =>
        rw [icut_none (t := (t.1, t.2.set i (setT d u e))) hi2 (by dsimp only; rw [hgi]; exact hcc)]
        refine ⟨?_, fun v hv => ?_⟩
        · show (t.2.set i (setT d u e)).length ≤ 21
          rw [List.length_set]; have := h.1; omega
        · rcases List.mem_or_eq_of_mem_set hv with hv | rfl
          · exact h.2 v hv
          · exact k1 hcc
      | some abk =>
        obtain ⟨a, b, k⟩ := abk
        rw [icut_some (t := (t.1, t.2.set i (setT d u e))) hi2 (by dsimp only; rw [hgi]; exact hcc)]
        obtain ⟨la, lb⟩ := k2 a b k hcc
        refine ⟨?_, fun v hv => ?_⟩
        · show ((t.2.set i (setT d u e)).take i ++ a :: b :: (t.2.set i (setT d u e)).drop (i + 1)).length ≤ 21
          have := h.1
          simp only [List.length_append, List.length_cons, List.length_take, List.length_drop, List.length_set]
          omega
        · have hv' : v ∈ (t.2.set i (setT d u e)).take i ++ a :: b :: (t.2.set i (setT d u e)).drop (i + 1) := hv
          rcases List.mem_append.1 hv' with hv | hv
          · rw [List.take_set_of_le (Nat.le_refl _)] at hv
            exact h.2 v (List.mem_of_mem_take hv)
          · rcases List.mem_cons.1 hv with rfl | hv
            · exact la
            · rcases List.mem_cons.1 hv with rfl | hv
              · exact lb
              · rw [List.drop_set_of_lt (by omega)] at hv
                exact h.2 v (List.mem_of_mem_drop hv)
end Go.Proofs.Ytpkhomfblilkhaa.E
