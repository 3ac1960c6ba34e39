/- Trees in plain Lean: set. -/
import Derived.Test.YtpkhomfblilkhaaP3
namespace Go.Proofs.Ytpkhomfblilkhaa.E
set_option linter.all false

/-- The kid in which a key would be. -/
theorem btw_at {α : Type} {B : Nat → Nat → α → Prop} (x : Nat) : ∀ {l h : Nat} {ks : List Ky} {us : List α}, Btw B l h ks us → l ≤ x → x < h →
    ∃ u l' h', us[up Ky.n ks x]? = some u ∧ B l' h' u ∧ l' ≤ x ∧ x < h' ∧ l ≤ l' ∧ h' ≤ h ∧
      (∀ u', B l' h' u' → Btw B l h ks (us.set (up Ky.n ks x) u')) ∧
      (∀ a b k, B l' k.n a → B k.n h' b → l' < k.n → k.n < h' → Btw B l h (ks.take (up Ky.n ks x) ++ k :: ks.drop (up Ky.n ks x)) (us.take (up Ky.n ks x) ++ a :: b :: us.drop (up Ky.n ks x + 1))) ∧
      (∀ v ∈ us.take (up Ky.n ks x), ∃ p q, B p q v ∧ q ≤ l') ∧ (∀ v ∈ us.drop (up Ky.n ks x + 1), ∃ p q, B p q v ∧ h' ≤ p)
  | l, h, [], [u], ⟨hl, hb⟩, h1, h2 => by
    refine ⟨u, l, h, rfl, hb, h1, h2, Nat.le_refl _, Nat.le_refl _, fun u' hu => ⟨hl, hu⟩, fun a b k ha hb' h3 h4 => ⟨h3, h4, ha, Nat.le_of_lt h4, hb'⟩, ?_, ?_⟩
    · intro v hv; cases hv
    · intro v hv; cases hv
  | l, h, k0 :: ks, u0 :: us, ⟨a1, a2, a3, a4⟩, h1, h2 => by
    rw [up_cons]
    by_cases hx : x < k0.n
    · rw [if_pos hx]
      refine ⟨u0, l, k0.n, rfl, a3, h1, hx, Nat.le_refl _, Nat.le_of_lt a2, fun u' hu => ⟨a1, a2, hu, a4⟩, fun a b k ha hb' h3 h4 => ⟨h3, Nat.lt_trans h4 a2, ha, h4, a2, hb', a4⟩, ?_, ?_⟩
      · intro v hv; cases hv
      · intro v hv
        have : ∀ {l h : Nat} {ks : List Ky} {us : List α}, Btw B l h ks us → ∀ v ∈ us, ∃ p q, B p q v ∧ l ≤ p := by
          intro l h ks
          induction ks generalizing l h with
          | nil =>
            intro us hb v hv
            match us, hb with
            | [w], hb => obtain rfl := List.mem_singleton.1 hv; exact ⟨_, _, hb.2, Nat.le_refl _⟩
          | cons k ks ih =>
            intro us hb v hv
            match us, hb with
            | w :: us, ⟨b1, b2, b3, b4⟩ =>
              rcases List.mem_cons.1 hv with rfl | hv
              · exact ⟨_, _, b3, Nat.le_refl _⟩
              · obtain ⟨p, q, hp, hq⟩ := ih b4 v hv
                exact ⟨p, q, hp, by omega⟩
        exact this a4 v (by simpa using hv)
    · rw [if_neg hx]
      obtain ⟨u, l', h', c1, c2, c3, c4, c5, c6, c7, c8, c9, c10⟩ := btw_at x a4 (by omega) h2
      refine ⟨u, l', h', by simpa using c1, c2, c3, c4, by omega, c6, fun u' hu => ⟨a1, a2, a3, c7 u' hu⟩, fun a b k ha hb' h3 h4 => ⟨a1, a2, a3, c8 a b k ha hb' h3 h4⟩, ?_, ?_⟩
      · intro v hv
        rw [List.take_succ_cons] at hv
        rcases List.mem_cons.1 hv with rfl | hv
        · exact ⟨l, k0.n, a3, c5⟩
        · exact c9 v hv
      · intro v hv
        rw [List.drop_succ_cons] at hv
        exact c10 v hv
  | _, _, [], [], hb, _, _ => hb.elim
  | _, _, [], _ :: _ :: _, hb, _, _ => hb.elim
  | _, _, _ :: _, [], hb, _, _ => hb.elim
theorem flat_set {d : Nat} {us : List (Tr d)} {i : Nat} {u u' : Tr d} (h : us[i]? = some u) : us.flatMap (ents d) = (us.take i).flatMap (ents d) ++ (ents d u ++ (us.drop (i + 1)).flatMap (ents d)) ∧ (us.set i u').flatMap (ents d) = (us.take i).flatMap (ents d) ++ (ents d u' ++ (us.drop (i + 1)).flatMap (ents d)) := by
  obtain ⟨hi, rfl⟩ := List.getElem?_eq_some_iff.1 h
  constructor
  · conv => lhs; rw [← List.take_append_drop i us, List.drop_eq_getElem_cons hi]
    rw [List.flatMap_append, List.flatMap_cons]
  · rw [List.set_eq_take_append_cons_drop, if_pos hi, List.flatMap_append, List.flatMap_cons]
theorem icut_ents {d : Nat} (t : Tr (d + 1)) (i : Nat) : ents (d + 1) (icutT d t i) = ents (d + 1) t := by
  cases h : t.2[i]? with
  | none => unfold icutT; rw [h]
  | some u =>
    obtain ⟨hi, hu⟩ := List.getElem?_eq_some_iff.1 h
    cases hc : cutT d t.2[i] with
    | none => rw [icut_none hi hc]
    | some abk =>
      obtain ⟨a, b, k⟩ := abk
      rw [icut_some hi hc]
      rw [hu] at hc
      show (t.2.take i ++ a :: b :: t.2.drop (i + 1)).flatMap (ents d) = t.2.flatMap (ents d)
      rw [(flat_set (u' := u) h).1, List.flatMap_append, List.flatMap_cons, List.flatMap_cons, cut_ents d hc]
      simp
theorem set_spec (e : Ent) : ∀ (d : Nat) {l h : Nat} {t : Tr d}, Bnd d l h t → l ≤ e.n → e.n < h → ents d (setT d t e) = insE (ents d t) e ∧ Bnd d l h (setT d t e)
  | 0, l, h, es, hb, h1, h2 => by
    have hs := set_leaf hb.1 e
    refine ⟨hs, ?_⟩
    rw [hs]
    refine ⟨?_, ?_⟩
    · refine asc_app (hb.1.sublist List.filter_sublist) ?_ ?_
      · refine List.pairwise_cons.2 ⟨fun x hx => by simpa using (List.mem_filter.1 hx).2, hb.1.sublist List.filter_sublist⟩
      · intro x hx y hy
        have hx' : x.n < e.n := by simpa using (List.mem_filter.1 hx).2
        rcases List.mem_cons.1 hy with rfl | hy
        · exact hx'
        · have : e.n < y.n := by simpa using (List.mem_filter.1 hy).2
          omega
    · intro x hx
      rcases List.mem_append.1 hx with hx | hx
      · exact hb.2 x (List.mem_filter.1 hx).1
      · rcases List.mem_cons.1 hx with rfl | hx
        · exact ⟨h1, h2⟩
        · exact hb.2 x (List.mem_filter.1 hx).1
  | d + 1, l, h, t, hb, h1, h2 => by
    obtain ⟨u, l', h', c1, c2, c3, c4, c5, c6, c7, c8, c9, c10⟩ := btw_at e.n hb h1 h2
    obtain ⟨i1, i2⟩ := set_spec e d c2 c3 c4
    obtain ⟨i, hi⟩ : ∃ i, i = up Ky.n t.1 e.n := ⟨_, rfl⟩
    have hset := set_at_kid (e := e) c1
    rw [← hi] at c1 c7 c8 c9 c10 hset
    have hA : ∀ x ∈ (t.2.take i).flatMap (ents d), x.n < e.n := by
      intro x hx
      obtain ⟨v, hv, hx⟩ := List.mem_flatMap.1 hx
      obtain ⟨p, q, hp, hq⟩ := c9 v hv
      have := bnd_ents d hp x hx; omega
    have hC : ∀ x ∈ (t.2.drop (i + 1)).flatMap (ents d), e.n < x.n := by
      intro x hx
      obtain ⟨v, hv, hx⟩ := List.mem_flatMap.1 hx
      obtain ⟨p, q, hp, hq⟩ := c10 v hv
      have := bnd_ents d hp x hx; omega
    obtain ⟨e1, e2⟩ := flat_set (u' := setT d u e) c1
    constructor
    · rw [hset]
      refine (icut_ents (t.1, t.2.set i (setT d u e)) i).trans ?_
      show (t.2.set i (setT d u e)).flatMap (ents d) = insE (t.2.flatMap (ents d)) e
      rw [e2, e1, insE_mid hA hC, i1]
    · rw [hset]
      have hil : i < t.2.length := (List.getElem?_eq_some_iff.1 c1).1
      have hi2 : i < (t.2.set i (setT d u e)).length := by rw [List.length_set]; exact hil
      have hgi : (t.2.set i (setT d u e))[i] = setT d u e := List.getElem_set_self _
      cases hc : cutT d (setT d u e) with
      | none =>
        rw [icut_none (t := (t.1, t.2.set i (setT d u e))) hi2 (by dsimp only; rw [hgi]; exact hc)]
        exact c7 _ i2
      | some abk =>
        obtain ⟨a, b, k⟩ := abk
        rw [icut_some (t := (t.1, t.2.set i (setT d u e))) hi2 (by dsimp only; rw [hgi]; exact hc)]
        obtain ⟨b1, b2, b3, b4⟩ := cut_bnd d i2 (fun _ => trivial) hc
        have := c8 a b k b1 b2 b3 b4
        have t1 : (t.2.set i (setT d u e)).take i = t.2.take i := by rw [List.take_set_of_le (Nat.le_refl _)]
        have t2 : (t.2.set i (setT d u e)).drop (i + 1) = t.2.drop (i + 1) := by rw [List.drop_set_of_lt (by omega)]
        show Btw _ l h (t.1.take i ++ k :: t.1.drop i) ((t.2.set i (setT d u e)).take i ++ a :: b :: (t.2.set i (setT d u e)).drop (i + 1))
        rw [t1, t2]
        exact this
end Go.Proofs.Ytpkhomfblilkhaa.E
