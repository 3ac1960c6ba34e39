/- Trees in plain Lean: what a tree must be; what Set makes of it. -/
import Derived.Test.YtpkhomfblilkhaaP5
namespace Go.Proofs.Ytpkhomfblilkhaa.E
set_option linter.all false

/-- How many a part has. -/
def sz : (d : Nat) → Tr d → Nat
  | 0, es => List.length (α := Ent) es
  | _ + 1, t => t.2.length
def least : Nat → Nat
  | 0 => 6
  | _ + 1 => 10
/-- No part has too little. -/
def Big : (d : Nat) → Tr d → Prop
  | 0, es => 6 ≤ List.length (α := Ent) es
  | d + 1, t => 10 ≤ t.2.length ∧ ∀ u ∈ t.2, Big d u
/-- The uppermost part apart. -/
def BigK : (d : Nat) → Tr d → Prop
  | 0, _ => True
  | d + 1, t => ∀ u ∈ t.2, Big d u
theorem big_iff : ∀ {d : Nat} {t : Tr d}, Big d t ↔ least d ≤ sz d t ∧ BigK d t
  | 0, _ => ⟨fun h => ⟨h, trivial⟩, fun h => h.1⟩
  | _ + 1, _ => Iff.rfl
theorem half_big {es : List Ent} (h12 : ¬ es.length ≤ 12) : 6 ≤ (es.take (es.length / 2)).length ∧ 6 ≤ (es.drop (es.length / 2)).length := by
  rw [List.length_take, List.length_drop]; omega
theorem set_sz0 (es : List Ent) (e : Ent) : es.length ≤ List.length (α := Ent) (setT 0 es e) := by
  have hll := lo_le (g := Ent.n) es e.n
  cases hat : isAt Ent.n es e.n
  · rw [set0_no hat, List.length_append, List.length_cons, List.length_take, List.length_drop]; omega
  · rw [set0_yes hat, List.length_set]; exact Nat.le_refl _
theorem cut_big : ∀ (d : Nat) {u : Tr d}, BigK d u → ∀ a b k, cutT d u = some (a, b, k) → Big d a ∧ Big d b
  | 0, u, h, a, b, k, hc => by
    by_cases h12 : List.length (α := Ent) u ≤ 12
    · rw [cut0_no h12] at hc; cases hc
    · rw [cut0_yes h12] at hc
      cases Option.some.inj hc
      exact half_big h12
  | d + 1, u, h, a, b, k, hc => by
    by_cases h20 : u.2.length ≤ 20
    · rw [cutI_no h20] at hc; cases hc
    · rw [cutI_yes h20] at hc
      cases Option.some.inj hc
      exact ⟨⟨by show 10 ≤ (u.2.take _).length; rw [List.length_take]; omega, fun v hv => h v (List.mem_of_mem_take hv)⟩, ⟨by show 10 ≤ (u.2.drop _).length; rw [List.length_drop]; omega, fun v hv => h v (List.mem_of_mem_drop hv)⟩⟩
/-- A kid is changed, then parted where it has too much. -/
theorem icut_big {d : Nat} {t : Tr (d + 1)} {i : Nat} (hil : i < t.2.length) {u : Tr d} (h : ∀ v ∈ t.2.take i, Big d v) (h2 : ∀ v ∈ t.2.drop (i + 1), Big d v) (hu : BigK d u) (hb : cutT d u = none → Big d u) (hg : t.2[i]? = some u) :
    BigK (d + 1) (icutT d t i) ∧ t.2.length ≤ (icutT d t i).2.length := by
  obtain ⟨hi2, hgi⟩ := List.getElem?_eq_some_iff.1 hg
  cases hc : cutT d u with
  | none =>
    rw [icut_none hil (by rw [hgi]; exact hc)]
    refine ⟨fun v hv => ?_, Nat.le_refl _⟩
    have e : t.2 = t.2.take i ++ t.2[i] :: t.2.drop (i + 1) := by rw [← List.drop_eq_getElem_cons hil, List.take_append_drop]
    rw [e] at hv
    rcases List.mem_append.1 hv with hv | hv
    · exact h v hv
    · rcases List.mem_cons.1 hv with rfl | hv
      · rw [hgi]; exact hb hc
      · exact h2 v hv
  | some abk =>
    obtain ⟨a, b, k⟩ := abk
    rw [icut_some hil (by rw [hgi]; exact hc)]
    obtain ⟨la, lb⟩ := cut_big d hu a b k hc
    refine ⟨fun v hv => ?_, ?_⟩
    · have hv' : v ∈ t.2.take i ++ a :: b :: t.2.drop (i + 1) := hv
      rcases List.mem_append.1 hv' with hv | hv
      · exact h v hv
      · rcases List.mem_cons.1 hv with rfl | hv
        · exact la
        · rcases List.mem_cons.1 hv with rfl | hv
          · exact lb
          · exact h2 v hv
    · show t.2.length ≤ (t.2.take i ++ a :: b :: t.2.drop (i + 1)).length
      simp only [List.length_append, List.length_cons, List.length_take, List.length_drop]
      omega
theorem set_big (e : Ent) : ∀ (d : Nat) {t : Tr d}, BigK d t → BigK d (setT d t e) ∧ sz d t ≤ sz d (setT d t e)
  | 0, es, _ => by
    exact ⟨trivial, set_sz0 es e⟩
  | d + 1, t, h => by
    cases hc : t.2[up Ky.n t.1 e.n]? with
    | none =>
      have : setT (d + 1) t e = t := by rw [setT, hc]
      rw [this]; exact ⟨h, Nat.le_refl _⟩
    | some u =>
      obtain ⟨hil, hu⟩ := List.getElem?_eq_some_iff.1 hc
      have hset := set_at_kid (e := e) hc
      obtain ⟨i, hi⟩ : ∃ i, i = up Ky.n t.1 e.n := ⟨_, rfl⟩
      rw [← hi] at hset hc hil
      rw [hset]
      have hbu : Big d u := h u (List.mem_of_getElem? hc)
      obtain ⟨i1, i2⟩ := set_big e d (big_iff.1 hbu).2
      have hbs : Big d (setT d u e) := big_iff.2 ⟨Nat.le_trans (big_iff.1 hbu).1 i2, i1⟩
      have := icut_big (t := (t.1, t.2.set i (setT d u e))) (i := i) (u := setT d u e) (by dsimp only; rw [List.length_set]; exact hil)
        (by intro v hv; dsimp only at hv; rw [List.take_set_of_le (Nat.le_refl _)] at hv; exact h v (List.mem_of_mem_take hv))
        (by intro v hv; dsimp only at hv; rw [List.drop_set_of_lt (by omega)] at hv; exact h v (List.mem_of_mem_drop hv)) i1 (fun _ => hbs)
        (by dsimp only; rw [List.getElem?_set_self hil])
      refine ⟨this.1, ?_⟩
      have h2 := this.2
      dsimp only at h2
      rw [List.length_set] at h2
      exact h2
/-! ### What a tree must be -/
def topN : Nat := 256 ^ 40
theorem Ky.n_lt (k : Ky) : k.n < topN := by
  have := num_lt k.b k.isb
  rw [k.len] at this
  exact this
theorem Ent.n_lt (e : Ent) : e.n < topN := e.ky.n_lt
def BigTop (x : Top) : Prop := BigK x.1 x.2 ∧ (0 < x.1 → 2 ≤ sz x.1 x.2)
structure Inv (x : Top) : Prop where
  bnd : Bnd x.1 0 topN x.2
  lim : Lim x.1 x.2
  big : BigTop x
def entsT (x : Top) : List Ent := ents x.1 x.2
theorem inv_new : Inv ⟨0, []⟩ := ⟨⟨List.Pairwise.nil, by simp⟩, Nat.zero_le _, trivial, fun h => absurd h (by decide)⟩
theorem btw_keys {α : Type} {B : Nat → Nat → α → Prop} : ∀ {l h : Nat} {ks : List Ky} {us : List α}, Btw B l h ks us → Asc Ky.n ks ∧ ∀ k ∈ ks, l < k.n ∧ k.n < h
  | _, _, [], [_], _ => ⟨List.Pairwise.nil, by simp⟩
  | l, h, k :: ks, u :: us, ⟨h1, h2, _, h4⟩ => by
    obtain ⟨i1, i2⟩ := btw_keys h4
    refine ⟨List.pairwise_cons.2 ⟨fun x hx => (i2 x hx).1, i1⟩, fun x hx => ?_⟩
    rcases List.mem_cons.1 hx with rfl | hx
    · exact ⟨h1, h2⟩
    · have := i2 x hx; omega
  | _, _, [], [], hb => hb.elim
  | _, _, [], _ :: _ :: _, hb => hb.elim
  | _, _, _ :: _, [], hb => hb.elim
theorem btw_all {α : Type} {B : Nat → Nat → α → Prop} : ∀ {l h : Nat} {ks : List Ky} {us : List α}, Btw B l h ks us → ∀ u ∈ us, ∃ p q, B p q u
  | _, _, [], [_], hb, u, hu => by obtain rfl := List.mem_singleton.1 hu; exact ⟨_, _, hb.2⟩
  | l, h, k :: ks, u :: us, ⟨h1, h2, h3, h4⟩, v, hv => by
    rcases List.mem_cons.1 hv with rfl | hv
    · exact ⟨_, _, h3⟩
    · exact btw_all h4 v hv
  | _, _, [], [], hb, _, _ => hb.elim
  | _, _, [], _ :: _ :: _, hb, _, _ => hb.elim
  | _, _, _ :: _, [], hb, _, _ => hb.elim
/-- Half a part more than there may be. -/
def Lim2 : (d : Nat) → Tr d → Prop
  | 0, es => List.length (α := Ent) es ≤ 24
  | d + 1, t => t.2.length ≤ 40 ∧ ∀ u ∈ t.2, Lim d u
theorem lim1_2 : ∀ {d : Nat} {t : Tr d}, Lim1 d t → Lim2 d t
  | 0, es, h => by show List.length (α := Ent) es ≤ 24; have : List.length (α := Ent) es ≤ 13 := h; omega
  | d + 1, t, h => ⟨by have := h.1; omega, h.2⟩
theorem bnd_ok : ∀ (d : Nat) {l h : Nat} {t : Tr d}, Bnd d l h t → Lim2 d t → Ok d t
  | 0, l, h, es, hb, hl => ⟨hb.1, by have : List.length (α := Ent) es ≤ 24 := hl; omega⟩
  | d + 1, l, h, t, hb, hl => ⟨(btw_keys hb).1, Btw.len hb, by have := hl.1; omega, fun u hu => by
      obtain ⟨p, q, hp⟩ := btw_all hb u hu
      exact bnd_ok d hp (lim1_2 (lim_1 (hl.2 u hu)))⟩
theorem inv_ok {x : Top} (h : Inv x) : Ok x.1 x.2 := bnd_ok x.1 h.bnd (lim1_2 (lim_1 h.lim))
theorem good_of (e : Ent) : ∀ (d : Nat) {l h : Nat} {t : Tr d}, Bnd d l h t → Lim d t → l ≤ e.n → e.n < h → Good d t e
  | 0, l, h, es, hb, hl, _, _ => bnd_ok 0 hb (lim1_2 (lim_1 hl))
  | d + 1, l, h, t, hb, hl, h1, h2 => by
    refine ⟨(btw_keys hb).1, Btw.len hb, by have := hl.1; omega, fun u hu => ?_⟩
    obtain ⟨u', l', h', c1, c2, c3, c4, _⟩ := btw_at e.n hb h1 h2
    rw [hu] at c1
    cases Option.some.inj c1
    have hlu := hl.2 u (List.mem_of_getElem? hu)
    exact ⟨good_of e d c2 hlu c3 c4, bnd_ok d (set_spec e d c2 c3 c4).2 (lim1_2 (set_lim e d hlu))⟩
theorem inv_good {x : Top} (h : Inv x) (e : Ent) : Good x.1 x.2 e ∧ Ok x.1 (setT x.1 x.2 e) :=
  ⟨good_of e x.1 h.bnd h.lim (Nat.zero_le _) e.n_lt, bnd_ok x.1 (set_spec e x.1 h.bnd (Nat.zero_le _) e.n_lt).2 (lim1_2 (set_lim e x.1 h.lim))⟩
theorem set_inv {x : Top} (h : Inv x) (e : Ent) : Inv (setTop x e) ∧ entsT (setTop x e) = insE (entsT x) e := by
  obtain ⟨d, t⟩ := x
  obtain ⟨hb, hl, hbig, hb2⟩ := h
  dsimp only at hb hl hbig hb2
  obtain ⟨s1, s2⟩ := set_spec e d hb (Nat.zero_le _) e.n_lt
  have s3 := set_lim e d hl
  obtain ⟨s4, s5⟩ := set_big e d hbig
  obtain ⟨k1, k2⟩ := cut_lim d s3
  cases hc : cutT d (setT d t e) with
  | none =>
    rw [setTop_none (x := ⟨d, t⟩) hc]
    exact ⟨⟨s2, k1 hc, s4, fun h0 => Nat.le_trans (hb2 h0) s5⟩, s1⟩
  | some abk =>
    obtain ⟨a, b, k⟩ := abk
    rw [setTop_some (x := ⟨d, t⟩) hc]
    obtain ⟨b1, b2, b3, b4⟩ := cut_bnd d s2 (fun _ => trivial) hc
    obtain ⟨l1, l2⟩ := k2 a b k hc
    obtain ⟨g1, g2⟩ := cut_big d s4 a b k hc
    refine ⟨⟨⟨b3, b4, b1, Nat.le_of_lt b4, b2⟩, ⟨by show 2 ≤ 20; decide, ?_⟩, ?_, fun _ => Nat.le_refl 2⟩, ?_⟩
    · intro u hu
      rcases List.mem_cons.1 hu with rfl | hu
      · exact l1
      · obtain rfl := List.mem_singleton.1 hu; exact l2
    · intro u hu
      rcases List.mem_cons.1 hu with rfl | hu
      · exact g1
      · obtain rfl := List.mem_singleton.1 hu; exact g2
    · show [a, b].flatMap (ents d) = insE (ents d t) e
      rw [← s1, cut_ents d hc]
      simp
/-! ### Is it new? -/
def hasN (l : List Ent) (k : Nat) : Bool := l.any (fun x => decide (x.n = k))
theorem hasN_app (a b : List Ent) (k : Nat) : hasN (a ++ b) k = (hasN a k || hasN b k) := by simp [hasN]
theorem isAt_has {es : List Ent} (ha : Asc Ent.n es) (k : Nat) : isAt Ent.n es k = hasN es k := by
  rw [Bool.eq_iff_iff]
  constructor
  · intro h
    unfold isAt at h
    cases hx : es[lo Ent.n es k]? with
    | none => rw [hx] at h; cases h
    | some x =>
      rw [hx] at h
      exact List.any_eq_true.2 ⟨x, List.mem_of_getElem? hx, h⟩
  · intro h
    obtain ⟨x, hx, hk⟩ := List.any_eq_true.1 h
    have hk : x.n = k := by simpa using hk
    obtain ⟨j, hj, rfl⟩ := List.getElem_of_mem hx
    have h1 := lo_le (g := Ent.n) es k
    have : j = lo Ent.n es k := by
      refine lo_is (by omega) (fun i hi hij => ?_) (fun h => by omega)
      have := ha.lt hij hj; omega
    unfold isAt
    rw [← this, List.getElem?_eq_getElem hj]
    simpa using hk
theorem hasN_no {l : List Ent} {k : Nat} (h : ∀ x ∈ l, x.n ≠ k) : hasN l k = false := by
  rw [hasN, List.any_eq_false]; intro x hx; simpa using h x hx
theorem fresh_spec (e : Ent) : ∀ (d : Nat) {l h : Nat} {t : Tr d}, Bnd d l h t → l ≤ e.n → e.n < h → freshT d t e = !hasN (ents d t) e.n
  | 0, l, h, es, hb, _, _ => congrArg (!·) (isAt_has (es := es) hb.1 e.n)
  | d + 1, l, h, t, hb, h1, h2 => by
    obtain ⟨u, l', h', c1, c2, c3, c4, c5, c6, c7, c8, c9, c10⟩ := btw_at e.n hb h1 h2
    rw [fresh_at_kid c1, fresh_spec e d c2 c3 c4]
    show _ = !hasN (t.2.flatMap (ents d)) e.n
    rw [(flat_set (u' := u) c1).1, hasN_app, hasN_app, hasN_no (l := (t.2.take _).flatMap (ents d)), hasN_no (l := (t.2.drop _).flatMap (ents d)), Bool.false_or, Bool.or_false]
    · intro x hx
      obtain ⟨v, hv, hx⟩ := List.mem_flatMap.1 hx
      obtain ⟨p, q, hp, hq⟩ := c10 v hv
      have := bnd_ents d hp x hx; omega
    · intro x hx
      obtain ⟨v, hv, hx⟩ := List.mem_flatMap.1 hx
      obtain ⟨p, q, hp, hq⟩ := c9 v hv
      have := bnd_ents d hp x hx; omega
theorem insE_length : ∀ {l : List Ent}, Asc Ent.n l → ∀ (e : Ent), (insE l e).length = if hasN l e.n then l.length else l.length + 1
  | [], _, e => rfl
  | x :: l, ha, e => by
    obtain ⟨h1, h2⟩ := List.pairwise_cons.1 ha
    have ih := insE_length h2 e
    have hh : hasN (x :: l) e.n = (decide (x.n = e.n) || hasN l e.n) := rfl
    unfold insE at ih ⊢
    rw [List.length_append, List.length_cons] at ih ⊢
    rcases Nat.lt_trichotomy x.n e.n with h | h | h
    · rw [List.filter_cons_of_pos (by simpa using h), List.filter_cons_of_neg (by simp; omega), List.length_cons, hh, decide_eq_false (by omega), Bool.false_or]
      split <;> rename_i h3 <;> simp only [h3, if_true] at ih <;> simp at ih ⊢ <;> omega
    · have hn : hasN l e.n = false := hasN_no fun y hy => by have := h1 y hy; omega
      rw [List.filter_cons_of_neg (by simp; omega), List.filter_cons_of_neg (by simp; omega), hh, decide_eq_true h, Bool.true_or, if_pos rfl]
      rw [hn] at ih
      simp at ih ⊢
      omega
    · have hn : hasN l e.n = false := hasN_no fun y hy => by have := h1 y hy; omega
      rw [List.filter_cons_of_neg (by simp; omega), List.filter_cons_of_pos (by simpa using h), List.length_cons, hh, decide_eq_false (by omega), Bool.false_or, hn]
      rw [hn] at ih
      simp at ih ⊢
      omega
theorem fresh_len {x : Top} (h : Inv x) (e : Ent) : (if freshT x.1 x.2 e = true then (entsT x).length + 1 else (entsT x).length) = (entsT (setTop x e)).length := by
  have hi := set_inv h e
  have hl := insE_length (l := entsT x) (bnd_asc x.1 h.bnd) e
  have hf : freshT x.1 x.2 e = !hasN (entsT x) e.n := fresh_spec e x.1 h.bnd (Nat.zero_le _) e.n_lt
  rw [hi.2, hl, hf]
  cases hasN (entsT x) e.n <;> rfl
end Go.Proofs.Ytpkhomfblilkhaa.E
