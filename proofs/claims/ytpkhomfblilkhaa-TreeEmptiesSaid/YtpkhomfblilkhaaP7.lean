/- Trees in plain Lean: delete. -/
import Derived.Test.YtpkhomfblilkhaaP6
namespace Go.Proofs.Ytpkhomfblilkhaa.E
set_option linter.all false

theorem least_pos (d : Nat) : 1 ≤ least d := by cases d <;> simp [least]
theorem least_two (d : Nat) : 2 ≤ least d := by cases d <;> simp [least]
def joinT : (d : Nat) → Tr d → Tr d → Ky → Tr d
  | 0, a, b, _ => List.append (α := Ent) a b
  | _ + 1, a, b, k => (a.1 ++ k :: b.1, a.2 ++ b.2)
def mendT (d : Nat) (t : Tr (d + 1)) (i : Nat) : Tr (d + 1) :=
  match t.2[i]? with
  | none => t
  | some u => if least d ≤ sz d u ∨ t.2.length < 2 then t else
    match t.2[i - 1]?, t.2[i - 1 + 1]?, t.1[i - 1]? with
    | some a, some b, some k => icutT d (t.1.take (i - 1) ++ t.1.drop (i - 1 + 1), t.2.take (i - 1) ++ joinT d a b k :: t.2.drop (i - 1 + 2)) (i - 1)
    | _, _, _ => t
def delT : (d : Nat) → Tr d → Nat → Tr d
  | 0, es, k => if isAt Ent.n (α := Ent) es k then List.take (α := Ent) (lo Ent.n (α := Ent) es k) es ++ List.drop (α := Ent) (lo Ent.n (α := Ent) es k + 1) es else es
  | d + 1, t, k => match t.2[up Ky.n t.1 k]? with
    | none => t
    | some u => mendT d (t.1, t.2.set (up Ky.n t.1 k) (delT d u k)) (up Ky.n t.1 k)
def wasT : (d : Nat) → Tr d → Nat → Bool
  | 0, es, k => isAt Ent.n (α := Ent) es k
  | d + 1, t, k => match t.2[up Ky.n t.1 k]? with
    | none => false
    | some u => wasT d u k
/-- A root of one kid is that kid. -/
def topT : (d : Nat) → Tr d → Top
  | 0, es => ⟨0, es⟩
  | d + 1, t => match t.2 with
    | [u] => ⟨d, u⟩
    | _ => ⟨d + 1, t⟩
def delTop (x : Top) (k : Nat) : Top := if wasT x.1 x.2 k then topT x.1 (delT x.1 x.2 k) else ⟨x.1, delT x.1 x.2 k⟩
def delE (l : List Ent) (k : Nat) : List Ent := l.filter (fun x => decide (x.n ≠ k))
theorem delE_app (a b : List Ent) (k : Nat) : delE (a ++ b) k = delE a k ++ delE b k := by simp [delE]
theorem delE_no {l : List Ent} {k : Nat} (h : ∀ x ∈ l, x.n ≠ k) : delE l k = l := filter_all fun x hx => by simpa using h x hx
theorem del0_yes {es : List Ent} {k : Nat} (h : isAt Ent.n es k = true) : delT 0 es k = es.take (lo Ent.n es k) ++ es.drop (lo Ent.n es k + 1) := if_pos h
theorem del0_no {es : List Ent} {k : Nat} (h : isAt Ent.n es k = false) : delT 0 es k = es := if_neg (by rw [h]; exact Bool.false_ne_true)
theorem del_leaf {es : List Ent} (ha : Asc Ent.n es) (k : Nat) : delT 0 es k = delE es k := by
  cases hat : isAt Ent.n es k
  · rw [del0_no hat, delE_no]
    intro x hx h
    rw [isAt_has ha, hasN, List.any_eq_false] at hat
    exact absurd (hat x hx) (by simpa using h)
  · rw [del0_yes hat]
    have h0 : lo Ent.n es k < es.length := by
      rcases Nat.lt_or_ge (lo Ent.n es k) es.length with h | h
      · exact h
      · rw [isAt, List.getElem?_eq_none h] at hat; cases hat
    have he : es[lo Ent.n es k].n = k := by
      rw [isAt, List.getElem?_eq_getElem h0] at hat
      simpa using hat
    have hd : ∀ x ∈ es.drop (lo Ent.n es k + 1), k < x.n := by
      intro x hx
      obtain ⟨j, hj, rfl⟩ := List.getElem_of_mem hx
      rw [List.length_drop] at hj
      rw [List.getElem_drop]
      have := ha.lt (show lo Ent.n es k < lo Ent.n es k + 1 + j by omega) (by omega)
      omega
    have h1 : es = es.take (lo Ent.n es k) ++ ([es[lo Ent.n es k]] ++ es.drop (lo Ent.n es k + 1)) := by
      rw [List.singleton_append, ← List.drop_eq_getElem_cons h0, List.take_append_drop]
    conv => rhs; rw [h1]
    rw [delE_app, delE_app, delE_no (l := es.take _) (fun x hx => by have := take_lo hx; omega), delE_no (l := es.drop _) (fun x hx => by have := hd x hx; omega)]
    simp [delE, he]
    rfl
/-! ### Two neighbours -/
theorem btw_two {α : Type} {B : Nat → Nat → α → Prop} : ∀ (j : Nat) {l h : Nat} {ks : List Ky} {us : List α} (h1 : j < ks.length) (h2 : j + 1 < us.length), Btw B l h ks us →
    ∃ l' h', B l' ks[j].n us[j] ∧ B ks[j].n h' us[j + 1] ∧ l' < ks[j].n ∧ ks[j].n < h' ∧
      (∀ c, B l' h' c → Btw B l h (ks.take j ++ ks.drop (j + 1)) (us.take j ++ c :: us.drop (j + 2))) ∧
      (∀ a b k, B l' k.n a → B k.n h' b → l' < k.n → k.n < h' → Btw B l h (ks.take j ++ k :: ks.drop (j + 1)) (us.take j ++ a :: b :: us.drop (j + 2)))
  | 0, l, h, [k], [u, v], _, _, ⟨a1, a2, a3, a4⟩ => ⟨l, h, a3, a4.2, a1, a2, fun c hc => ⟨Nat.le_of_lt (Nat.lt_trans a1 a2), hc⟩, fun a b k' ha hb h3 h4 => ⟨h3, h4, ha, Nat.le_of_lt h4, hb⟩⟩
  | 0, l, h, k :: k2 :: ks, u :: v :: us, _, _, ⟨a1, a2, a3, ⟨b1, b2, b3, b4⟩⟩ => ⟨l, k2.n, a3, b3, a1, b1, fun c hc => ⟨Nat.lt_trans a1 b1, b2, hc, b4⟩, fun a b k' ha hb h3 h4 => ⟨h3, Nat.lt_trans h4 b2, ha, h4, b2, hb, b4⟩⟩
  | j + 1, l, h, k :: ks, u :: us, h1, h2, ⟨a1, a2, a3, a4⟩ => by
    obtain ⟨l', h', c1, c2, c3, c4, c5, c6⟩ := btw_two j (by simpa using h1) (by simpa using h2) a4
    exact ⟨l', h', c1, c2, c3, c4, fun c hc => ⟨a1, a2, a3, c5 c hc⟩, fun a b k' ha hb h3 h4 => ⟨a1, a2, a3, c6 a b k' ha hb h3 h4⟩⟩
  | _, _, _, [], _, h1, _, _ => by simp at h1
  | _, _, _, _ :: _, [], _, h2, _ => by simp at h2
  | 0, _, _, [_], _ :: _ :: _ :: _, _, _, ⟨_, _, _, hb⟩ => hb.elim
  | 0, _, _, [_], [_], _, h2, _ => by simp at h2
  | 0, _, _, _ :: _ :: _, [_], _, h2, _ => by simp at h2
theorem join_ents : ∀ (d : Nat) (a b : Tr d) (k : Ky), ents d (joinT d a b k) = ents d a ++ ents d b
  | 0, _, _, _ => rfl
  | d + 1, a, b, k => by
    show (a.2 ++ b.2).flatMap (ents d) = _
    rw [List.flatMap_append]; rfl
theorem join_bnd : ∀ (d : Nat) {l h : Nat} {a b : Tr d} {k : Ky}, Bnd d l k.n a → Bnd d k.n h b → l < k.n → k.n < h → Bnd d l h (joinT d a b k)
  | 0, l, h, a, b, k, ha, hb, h1, h2 => by
    refine ⟨asc_app ha.1 hb.1 fun x hx y hy => by have := ha.2 x hx; have := hb.2 y hy; omega, fun x hx => ?_⟩
    rcases List.mem_append.1 hx with hx | hx
    · have := ha.2 x hx; omega
    · have := hb.2 x hx; omega
  | d + 1, l, h, a, b, k, ha, hb, h1, h2 => btw_join ha hb h1 h2
theorem join_sz : ∀ (d : Nat) (a b : Tr d) (k : Ky), sz d (joinT d a b k) = sz d a + sz d b
  | 0, a, b, _ => List.length_append
  | _ + 1, a, b, _ => List.length_append
theorem join_bigk : ∀ (d : Nat) {a b : Tr d} {k : Ky}, BigK d a → BigK d b → BigK d (joinT d a b k)
  | 0, _, _, _, _, _ => trivial
  | d + 1, a, b, k, ha, hb => fun u hu => (List.mem_append.1 hu).elim (ha u) (hb u)
theorem app_lim {a b : List Ent} (h1 : a.length ≤ 12) (h2 : b.length ≤ 12) : (a ++ b).length ≤ 24 := by rw [List.length_append]; omega
theorem half_lim {es : List Ent} (h : es.length ≤ 24) (h12 : ¬ es.length ≤ 12) : (es.take (es.length / 2)).length ≤ 12 ∧ (es.drop (es.length / 2)).length ≤ 12 := by
  rw [List.length_take, List.length_drop]; omega
theorem del_sz0 (es : List Ent) (k : Nat) : es.length ≤ List.length (α := Ent) (delT 0 es k) + 1 := by
  cases hat : isAt Ent.n es k
  · rw [del0_no hat]; omega
  · rw [del0_yes hat, List.length_append, List.length_take, List.length_drop]; omega
theorem join_lim : ∀ (d : Nat) {a b : Tr d} {k : Ky}, Lim d a → Lim d b → Lim2 d (joinT d a b k)
  | 0, a, b, k, ha, hb => by
    exact app_lim ha hb
  | d + 1, a, b, k, ha, hb => ⟨by
      show (a.2 ++ b.2).length ≤ 40
      have := ha.1; have := hb.1
      rw [List.length_append]; omega, fun u hu => (List.mem_append.1 hu).elim (ha.2 u) (hb.2 u)⟩
theorem cut_lim2 : ∀ (d : Nat) {u : Tr d}, Lim2 d u → (cutT d u = none → Lim d u) ∧ (∀ a b k, cutT d u = some (a, b, k) → Lim d a ∧ Lim d b)
  | 0, u, h => by
    have h' : List.length (α := Ent) u ≤ 24 := h
    constructor
    · intro hc
      by_cases h12 : List.length (α := Ent) u ≤ 12
      · exact h12
      · rw [cut0_yes h12] at hc; cases hc
    · intro a b k hc
      by_cases h12 : List.length (α := Ent) u ≤ 12
      · rw [cut0_no h12] at hc; cases hc
      · rw [cut0_yes h12] at hc
        cases Option.some.inj hc
        exact half_lim h' h12
  | d + 1, u, h => by
    constructor
    · intro hc
      by_cases h20 : u.2.length ≤ 20
      · exact ⟨h20, h.2⟩
      · rw [cutI_yes h20] at hc; cases hc
    · intro a b k hc
      have hl := h.1
      by_cases h20 : u.2.length ≤ 20
      · rw [cutI_no h20] at hc; cases hc
      · rw [cutI_yes h20] at hc
        cases Option.some.inj hc
        exact ⟨⟨by show (u.2.take _).length ≤ 20; rw [List.length_take]; omega, fun v hv => h.2 v (List.mem_of_mem_take hv)⟩, ⟨by show (u.2.drop _).length ≤ 20; rw [List.length_drop]; omega, fun v hv => h.2 v (List.mem_of_mem_drop hv)⟩⟩
/-- What a part must be. -/
structure Fine (d : Nat) (l h : Nat) (t : Tr d) : Prop where
  bnd : Bnd d l h t
  lim : Lim d t
  big : BigK d t
theorem lim_kids : ∀ {d : Nat} {t : Tr (d + 1)}, Lim (d + 1) t → ∀ u ∈ t.2, Lim d u := fun h => h.2
/-- A kid that may have one too little is mended. -/
theorem mend_spec {d : Nat} {t : Tr (d + 1)} {i l h : Nat} (hb : Bnd (d + 1) l h t) (hl : Lim (d + 1) t) (h2 : 2 ≤ t.2.length) {u : Tr d} (hu : t.2[i]? = some u) (hk : ∀ v ∈ t.2, BigK d v) (hbig : ∀ j v, j ≠ i → t.2[j]? = some v → Big d v) (hone : least d ≤ sz d u + 1) :
    Fine (d + 1) l h (mendT d t i) ∧ ents (d + 1) (mendT d t i) = ents (d + 1) t ∧ t.2.length ≤ (mendT d t i).2.length + 1 := by
  have hlen := Btw.len hb
  obtain ⟨hi, hui⟩ := List.getElem?_eq_some_iff.1 hu
  by_cases hs : least d ≤ sz d u
  · have e : mendT d t i = t := by unfold mendT; rw [hu]; simp only; rw [if_pos (.inl hs)]
    rw [e]
    refine ⟨⟨hb, hl, fun v hv => ?_⟩, rfl, by omega⟩
    obtain ⟨j, hj, rfl⟩ := List.getElem_of_mem hv
    by_cases hji : j = i
    · subst hji; rw [hui]; exact big_iff.2 ⟨hs, hui ▸ hk _ (List.getElem_mem hj)⟩
    · exact hbig j _ hji (List.getElem?_eq_getElem hj)
  · obtain ⟨j, hj⟩ : ∃ j, j = i - 1 := ⟨_, rfl⟩
    have h1 : j < t.1.length := by omega
    have h3 : j + 1 < t.2.length := by omega
    have e : mendT d t i = icutT d (t.1.take j ++ t.1.drop (j + 1), t.2.take j ++ joinT d t.2[j] t.2[j + 1] t.1[j] :: t.2.drop (j + 2)) j := by
      unfold mendT; rw [hu]; simp only; rw [if_neg (by omega), ← hj, List.getElem?_eq_getElem (by omega), List.getElem?_eq_getElem h3, List.getElem?_eq_getElem h1]
    obtain ⟨c, hc⟩ : ∃ c, c = joinT d t.2[j] t.2[j + 1] t.1[j] := ⟨_, rfl⟩
    obtain ⟨l', h', c1, c2, c3, c4, c5, c6⟩ := btw_two j h1 h3 hb
    have cb : Bnd d l' h' c := hc ▸ join_bnd d c1 c2 c3 c4
    have cl : Lim2 d c := hc ▸ join_lim d (hl.2 _ (List.getElem_mem _)) (hl.2 _ (List.getElem_mem _))
    have ck : BigK d c := hc ▸ join_bigk d (hk _ (List.getElem_mem _)) (hk _ (List.getElem_mem _))
    have cs : least d ≤ sz d c := by
      rw [hc, join_sz]
      have hd1 : 1 ≤ least d := least_pos d
      by_cases hji : j = i
      · have := (big_iff.1 (hbig (j + 1) _ (by omega) (List.getElem?_eq_getElem h3))).1; omega
      · have := (big_iff.1 (hbig j _ hji (List.getElem?_eq_getElem (by omega)))).1; omega
    have ce : ents d c = ents d t.2[j] ++ ents d t.2[j + 1] := hc ▸ join_ents d _ _ _
    rw [← hc] at e
    obtain ⟨s, hs'⟩ : ∃ s : Tr (d + 1), s = (t.1.take j ++ t.1.drop (j + 1), t.2.take j ++ c :: t.2.drop (j + 2)) := ⟨_, rfl⟩
    rw [← hs'] at e
    have s2 : s.2 = t.2.take j ++ c :: t.2.drop (j + 2) := by rw [hs']
    have s1 : s.1 = t.1.take j ++ t.1.drop (j + 1) := by rw [hs']
    have hlj : (t.2.take j).length = j := by rw [List.length_take]; omega
    have hlk : (t.1.take j).length = j := by rw [List.length_take]; omega
    have sj : s.2[j]? = some c := by rw [s2]; exact elem_at rfl hlj
    have sl : s.2.length = t.2.length - 1 := by rw [s2, List.length_append, List.length_cons, hlj, List.length_drop]; omega
    have sj' : j < s.2.length := by omega
    have st : s.2.take j = t.2.take j := by rw [s2]; exact List.take_left' hlj
    have sd : s.2.drop (j + 1) = t.2.drop (j + 2) := by
      rw [s2, ← List.drop_drop, List.drop_left' hlj]; rfl
    have kt : s.1.take j = t.1.take j := by rw [s1]; exact List.take_left' hlk
    have kd : s.1.drop j = t.1.drop (j + 1) := by rw [s1]; exact List.drop_left' hlk
    have sgi : s.2[j] = c := by
      have := List.getElem?_eq_getElem sj'
      rw [sj] at this
      exact (Option.some.inj this).symm
    have hbt : ∀ v ∈ t.2.take j, Big d v ∨ v = u := by
      intro v hv
      obtain ⟨m, hm, rfl⟩ := List.getElem_of_mem hv
      rw [List.length_take] at hm
      rw [List.getElem_take]
      exact .inl (hbig m _ (by omega) (List.getElem?_eq_getElem (by omega)))
    have hbt' : ∀ v ∈ s.2.take j, Big d v := by
      intro v hv
      rw [st] at hv
      obtain ⟨m, hm, rfl⟩ := List.getElem_of_mem hv
      rw [List.length_take] at hm
      rw [List.getElem_take]
      exact hbig m _ (by omega) (List.getElem?_eq_getElem (by omega))
    have hbd' : ∀ v ∈ s.2.drop (j + 1), Big d v := by
      intro v hv
      rw [sd] at hv
      obtain ⟨m, hm, rfl⟩ := List.getElem_of_mem hv
      rw [List.length_drop] at hm
      rw [List.getElem_drop]
      exact hbig _ _ (by omega) (List.getElem?_eq_getElem (by omega))
    obtain ⟨g1, g2⟩ := icut_big sj' hbt' hbd' ck (fun _ => big_iff.2 ⟨cs, ck⟩) sj
    obtain ⟨q1, q2⟩ := cut_lim2 d cl
    have hents : ents (d + 1) s = ents (d + 1) t := by
      show s.2.flatMap (ents d) = t.2.flatMap (ents d)
      have e2 : t.2 = t.2.take j ++ t.2[j] :: t.2[j + 1] :: t.2.drop (j + 2) := by
        rw [← List.drop_eq_getElem_cons h3, ← List.drop_eq_getElem_cons (show j < t.2.length by omega), List.take_append_drop]
      conv => rhs; rw [e2]
      rw [s2, List.flatMap_append, List.flatMap_append, List.flatMap_cons, List.flatMap_cons, List.flatMap_cons, ce, List.append_assoc]
    rw [e]
    refine ⟨⟨?_, ?_, g1⟩, (icut_ents s j).trans hents, by omega⟩
    · cases hcc : cutT d c with
      | none =>
        rw [icut_none sj' (by rw [sgi]; exact hcc), hs']
        exact c5 c cb
      | some abk =>
        obtain ⟨a, b, k⟩ := abk
        rw [icut_some sj' (by rw [sgi]; exact hcc)]
        obtain ⟨b1, b2, b3, b4⟩ := cut_bnd d cb (fun _ => trivial) hcc
        show Btw _ l h (s.1.take j ++ k :: s.1.drop j) (s.2.take j ++ a :: b :: s.2.drop (j + 1))
        rw [kt, kd, st, sd]
        exact c6 a b k b1 b2 b3 b4
    · have hlm : ∀ v ∈ s.2, v = c ∨ v ∈ t.2 := by
        intro v hv
        rw [s2] at hv
        rcases List.mem_append.1 hv with hv | hv
        · exact .inr (List.mem_of_mem_take hv)
        · rcases List.mem_cons.1 hv with rfl | hv
          · exact .inl rfl
          · exact .inr (List.mem_of_mem_drop hv)
      cases hcc : cutT d c with
      | none =>
        rw [icut_none sj' (by rw [sgi]; exact hcc)]
        refine ⟨by have := hl.1; omega, fun v hv => ?_⟩
        rcases hlm v hv with rfl | hv
        · exact q1 hcc
        · exact hl.2 v hv
      | some abk =>
        obtain ⟨a, b, k⟩ := abk
        rw [icut_some sj' (by rw [sgi]; exact hcc)]
        obtain ⟨la, lb⟩ := q2 a b k hcc
        refine ⟨?_, fun v hv => ?_⟩
        · show (s.2.take j ++ a :: b :: s.2.drop (j + 1)).length ≤ 20
          have := hl.1
          simp only [List.length_append, List.length_cons, List.length_take, List.length_drop]
          omega
        · have hv' : v ∈ s.2.take j ++ a :: b :: s.2.drop (j + 1) := hv
          rcases List.mem_append.1 hv' with hv | hv
          · rw [st] at hv; exact hl.2 v (List.mem_of_mem_take hv)
          · rcases List.mem_cons.1 hv with rfl | hv
            · exact la
            · rcases List.mem_cons.1 hv with rfl | hv
              · exact lb
              · rw [sd] at hv; exact hl.2 v (List.mem_of_mem_drop hv)
theorem del_at_kid {d : Nat} {t : Tr (d + 1)} {k : Nat} {u : Tr d} (h : t.2[up Ky.n t.1 k]? = some u) : delT (d + 1) t k = mendT d (t.1, t.2.set (up Ky.n t.1 k) (delT d u k)) (up Ky.n t.1 k) := by
  rw [delT, h]
theorem was_at_kid {d : Nat} {t : Tr (d + 1)} {k : Nat} {u : Tr d} (h : t.2[up Ky.n t.1 k]? = some u) : wasT (d + 1) t k = wasT d u k := by
  rw [wasT, h]
theorem del_spec (k : Nat) : ∀ (d : Nat) {l h : Nat} {t : Tr d}, Fine d l h t → (0 < d → 2 ≤ sz d t) → l ≤ k → k < h →
    Fine d l h (delT d t k) ∧ ents d (delT d t k) = delE (ents d t) k ∧ sz d t ≤ sz d (delT d t k) + 1 ∧ wasT d t k = hasN (ents d t) k
  | 0, l, h, es, ⟨hb, hl, _⟩, _, h1, h2 => by
    have hs := del_leaf hb.1 k
    have hw : wasT 0 es k = hasN es k := isAt_has hb.1 k
    refine ⟨⟨?_, ?_, trivial⟩, hs, ?_, hw⟩
    · rw [hs]
      exact ⟨hb.1.sublist List.filter_sublist, fun e he => hb.2 e (List.mem_filter.1 he).1⟩
    · rw [hs]
      exact Nat.le_trans (List.length_filter_le _ _) hl
    · exact del_sz0 es k
  | d + 1, l, h, t, ⟨hb, hl, hk⟩, hz, h1, h2 => by
    obtain ⟨u, l', h', c1, c2, c3, c4, c5, c6, c7, c8, c9, c10⟩ := btw_at k hb h1 h2
    obtain ⟨i, hi⟩ : ∃ i, i = up Ky.n t.1 k := ⟨_, rfl⟩
    have hdel := del_at_kid c1
    have hwas := was_at_kid c1
    rw [← hi] at c1 c7 c8 c9 c10 hdel
    obtain ⟨hil, hui⟩ := List.getElem?_eq_some_iff.1 c1
    have hbu : Big d u := hk u (List.mem_of_getElem? c1)
    obtain ⟨b1, b2⟩ := big_iff.1 hbu
    obtain ⟨i1, i2, i3, i4⟩ := del_spec k d (t := u) ⟨c2, hl.2 u (List.mem_of_getElem? c1), b2⟩ (fun h0 => by cases d with | zero => cases h0 | succ d => exact Nat.le_trans (least_two _) b1) c3 c4
    obtain ⟨i1b, i1l, i1k⟩ := i1
    have hA : ∀ x ∈ (t.2.take i).flatMap (ents d), x.n ≠ k := by
      intro x hx
      obtain ⟨v, hv, hx⟩ := List.mem_flatMap.1 hx
      obtain ⟨p, q, hp, hq⟩ := c9 v hv
      have := bnd_ents d hp x hx; omega
    have hC : ∀ x ∈ (t.2.drop (i + 1)).flatMap (ents d), x.n ≠ k := by
      intro x hx
      obtain ⟨v, hv, hx⟩ := List.mem_flatMap.1 hx
      obtain ⟨p, q, hp, hq⟩ := c10 v hv
      have := bnd_ents d hp x hx; omega
    obtain ⟨e1, e2⟩ := flat_set (u' := delT d u k) c1
    have hsl : (t.2.set i (delT d u k)).length = t.2.length := List.length_set
    have := mend_spec (t := (t.1, t.2.set i (delT d u k))) (i := i) (u := delT d u k) (c7 _ i1b)
      ⟨by dsimp only; rw [hsl]; exact hl.1, fun v hv => by
        rcases List.mem_or_eq_of_mem_set hv with hv | rfl
        · exact hl.2 v hv
        · exact i1l⟩
      (by dsimp only; rw [hsl]; exact hz (Nat.succ_pos d)) (by dsimp only; rw [List.getElem?_set_self hil])
      (fun v hv => by
        rcases List.mem_or_eq_of_mem_set hv with hv | rfl
        · exact (big_iff.1 (hk v hv)).2
        · exact i1k)
      (fun j v hj hv => by
        dsimp only at hv
        rw [List.getElem?_set_ne (by omega)] at hv
        exact hk v (List.mem_of_getElem? hv))
      (by omega)
    rw [hdel]
    refine ⟨this.1, this.2.1.trans ?_, ?_, ?_⟩
    · show (t.2.set i (delT d u k)).flatMap (ents d) = delE (t.2.flatMap (ents d)) k
      rw [e2, e1, delE_app, delE_app, delE_no hA, delE_no hC, i2]
    · have h3 := this.2.2
      dsimp only at h3
      rw [hsl] at h3
      exact h3
    · rw [hwas, i4]
      show _ = hasN (t.2.flatMap (ents d)) k
      rw [e1, hasN_app, hasN_app, hasN_no hA, hasN_no hC, Bool.false_or, Bool.or_false]
theorem topT_spec : ∀ (d : Nat) {t : Tr d}, Fine d 0 topN t → (0 < d → 1 ≤ sz d t) → Inv (topT d t) ∧ entsT (topT d t) = ents d t
  | 0, es, ⟨hb, hl, hk⟩, _ => ⟨⟨hb, hl, hk, fun h => absurd h (Nat.lt_irrefl 0)⟩, rfl⟩
  | d + 1, (ks, us), ⟨hb, hl, hk⟩, hz => by
    have hz' : 1 ≤ us.length := hz (Nat.succ_pos d)
    match us, hb, hl, hk, hz' with
    | [u], hb, hl, hk, _ =>
      have hlen := Btw.len hb
      obtain rfl : ks = [] := List.eq_nil_of_length_eq_zero (by simpa using hlen.symm)
      have hbu := big_iff.1 (hk u (by simp))
      refine ⟨⟨hb.2, hl.2 u (by simp), hbu.2, fun h0 => ?_⟩, ?_⟩
      · show 2 ≤ sz d u
        cases d with
        | zero => cases h0
        | succ d => exact Nat.le_trans (least_two _) hbu.1
      · show ents d u = [u].flatMap (ents d); simp
    | u :: v :: us, hb, hl, hk, _ => exact ⟨⟨hb, hl, hk, fun _ => by show 2 ≤ (u :: v :: us).length; simp⟩, rfl⟩
theorem del_same (k : Nat) : ∀ (d : Nat) {t : Tr d}, BigK d t → wasT d t k = false → delT d t k = t
  | 0, es, _, h => del0_no h
  | d + 1, t, hk, h => by
    cases hc : t.2[up Ky.n t.1 k]? with
    | none => rw [delT, hc]
    | some u =>
      rw [was_at_kid hc] at h
      have hb := big_iff.1 (hk u (List.mem_of_getElem? hc))
      rw [del_at_kid hc, del_same k d hb.2 h]
      obtain ⟨hi, hui⟩ := List.getElem?_eq_some_iff.1 hc
      have e : t.2.set (up Ky.n t.1 k) u = t.2 := by rw [← hui]; exact List.set_getElem_self _
      rw [e]
      unfold mendT
      show (match t.2[up Ky.n t.1 k]? with | none => (t.1, t.2) | some u => _) = t
      rw [hc]
      exact if_pos (.inl hb.1)
theorem del_inv {x : Top} (h : Inv x) {k : Nat} (hk : k < topN) : Inv (delTop x k) ∧ entsT (delTop x k) = delE (entsT x) k ∧ wasT x.1 x.2 k = hasN (entsT x) k := by
  obtain ⟨d, t⟩ := x
  obtain ⟨hb, hl, hbig, hb2⟩ := h
  dsimp only at hb hl hbig hb2
  obtain ⟨i1, i2, i3, i4⟩ := del_spec k d ⟨hb, hl, hbig⟩ hb2 (Nat.zero_le _) hk
  unfold delTop
  cases hw : wasT d t k
  · rw [if_neg (by simp)]
    rw [hw] at i4
    have he := del_same k d hbig hw
    rw [he] at i2 ⊢
    exact ⟨⟨hb, hl, hbig, hb2⟩, i2, i4⟩
  · rw [if_pos rfl]
    obtain ⟨j1, j2⟩ := topT_spec d i1 (fun h0 => by have := hb2 h0; omega)
    exact ⟨j1, j2.trans i2, by rw [hw] at i4; exact i4⟩
end Go.Proofs.Ytpkhomfblilkhaa.E
