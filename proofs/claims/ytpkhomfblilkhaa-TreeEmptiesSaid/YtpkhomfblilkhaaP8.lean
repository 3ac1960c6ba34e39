/- Trees in plain Lean: what del leans on. -/
import Derived.Test.YtpkhomfblilkhaaF18
namespace Go.Proofs.Ytpkhomfblilkhaa.E
set_option linter.all false

theorem goodD_of (k : Nat) : ∀ (d : Nat) {l h : Nat} {t : Tr d}, Fine d l h t → (0 < d → 2 ≤ sz d t) → l ≤ k → k < h → GoodD d t k
  | 0, l, h, es, hf, _, _, _ => bnd_ok 0 hf.bnd (lim1_2 (lim_1 hf.lim))
  | d + 1, l, h, t, ⟨hb, hl, hk⟩, hz, h1, h2 => by
    refine ⟨(btw_keys hb).1, Btw.len hb, by have := hl.1; omega, fun u hu => ?_, fun u hu => ?_⟩
    · obtain ⟨p, q, hp⟩ := btw_all hb u hu
      exact bnd_ok d hp (lim1_2 (lim_1 (hl.2 u hu)))
    · obtain ⟨u', l', h', c1, c2, c3, c4, c5, c6, c7, c8, c9, c10⟩ := btw_at k hb h1 h2
      rw [hu] at c1
      cases Option.some.inj c1
      have hbu : Big d u := hk u (List.mem_of_getElem? hu)
      obtain ⟨b1, b2⟩ := big_iff.1 hbu
      have hfu : Fine d l' h' u := ⟨c2, hl.2 u (List.mem_of_getElem? hu), b2⟩
      have hzu : 0 < d → 2 ≤ sz d u := fun h0 => Nat.le_trans (least_two d) b1
      obtain ⟨⟨i1b, i1l, i1k⟩, i2, i3, i4⟩ := del_spec k d hfu hzu c3 c4
      refine ⟨goodD_of k d hfu hzu c3 c4, bnd_ok d i1b (lim1_2 (lim_1 i1l)), fun a b q ha hb' hq => ?_⟩
      have hbt := c7 _ i1b
      obtain ⟨x1, x2⟩ := List.getElem?_eq_some_iff.1 ha
      obtain ⟨y1, y2⟩ := List.getElem?_eq_some_iff.1 hb'
      obtain ⟨z1, z2⟩ := List.getElem?_eq_some_iff.1 hq
      obtain ⟨p, r, d1, d2, d3, d4, _⟩ := btw_two (up Ky.n t.1 k - 1) z1 y1 hbt
      rw [x2, z2] at d1
      rw [y2, z2] at d2
      rw [z2] at d3 d4
      have hlim : ∀ v ∈ t.2.set (up Ky.n t.1 k) (delT d u k), Lim d v := by
        intro v hv
        rcases List.mem_or_eq_of_mem_set hv with hv | rfl
        · exact hl.2 v hv
        · exact i1l
      exact bnd_ok d (join_bnd d d1 d2 d3 d4) (join_lim d (hlim a (List.mem_of_getElem? ha)) (hlim b (List.mem_of_getElem? hb')))
theorem inv_goodD {x : Top} (h : Inv x) {k : Nat} (hk : k < topN) : GoodD x.1 x.2 k ∧ (0 < x.1 → 1 ≤ sz x.1 (delT x.1 x.2 k)) := by
  have hf : Fine x.1 0 topN x.2 := ⟨h.bnd, h.lim, h.big.1⟩
  refine ⟨goodD_of k x.1 hf h.big.2 (Nat.zero_le _) hk, fun h0 => ?_⟩
  have := (del_spec k x.1 hf h.big.2 (Nat.zero_le _) hk).2.2.1
  have := h.big.2 h0
  omega
theorem delE_length : ∀ {l : List Ent}, Asc Ent.n l → ∀ (k : Nat), (delE l k).length = if hasN l k then l.length - 1 else l.length
  | [], _, _ => rfl
  | x :: l, ha, k => by
    obtain ⟨h1, h2⟩ := List.pairwise_cons.1 ha
    have ih := delE_length h2 k
    have hh : hasN (x :: l) k = (decide (x.n = k) || hasN l k) := rfl
    unfold delE at ih ⊢
    by_cases h : x.n = k
    · have hn : hasN l k = false := hasN_no fun y hy => by have := h1 y hy; omega
      rw [List.filter_cons_of_neg (by simpa using h), hh, decide_eq_true h, Bool.true_or, if_pos rfl]
      rw [hn] at ih
      simp at ih ⊢
      omega
    · rw [List.filter_cons_of_pos (by simpa using h), List.length_cons, hh, decide_eq_false h, Bool.false_or, ih]
      cases hn : hasN l k
      · simp
      · have : 0 < l.length := by
          cases l with
          | nil => cases hn
          | cons => simp
        simp
        omega
theorem del_len {x : Top} (h : Inv x) {k : Nat} (hk : k < topN) : (if wasT x.1 x.2 k = true then (entsT x).length - 1 else (entsT x).length) = (entsT (delTop x k)).length := by
  have hi := del_inv h hk
  have hl := delE_length (l := entsT x) (bnd_asc x.1 h.bnd) k
  rw [hi.2.1, hl, hi.2.2]
theorem was_pos {x : Top} (h : Inv x) {k : Nat} (hk : k < topN) : wasT x.1 x.2 k = true → 1 ≤ (entsT x).length := fun hw => by
  rw [(del_inv h hk).2.2] at hw
  cases he : entsT x with
  | nil => rw [he] at hw; cases hw
  | cons => simp
end Go.Proofs.Ytpkhomfblilkhaa.E
