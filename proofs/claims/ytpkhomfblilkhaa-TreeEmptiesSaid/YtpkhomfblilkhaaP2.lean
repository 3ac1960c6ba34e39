/- Trees in plain Lean: entries rise; what set does. -/
import Derived.Test.YtpkhomfblilkhaaP1
namespace Go.Proofs.Ytpkhomfblilkhaa.E
set_option linter.all false

theorem asc_app {α : Type} {g : α → Nat} {a b : List α} (ha : Asc g a) (hb : Asc g b) (h : ∀ x ∈ a, ∀ y ∈ b, g x < g y) : Asc g (a ++ b) := List.pairwise_append.2 ⟨ha, hb, h⟩
theorem bnd_asc : ∀ (d : Nat) {l h : Nat} {t : Tr d}, Bnd d l h t → Asc Ent.n (ents d t)
  | 0, _, _, _, hb => hb.1
  | d + 1, l, h, t, hb => by
    have go : ∀ (ks : List Ky) (us : List (Tr d)) (l h : Nat), Btw (fun l h u => Bnd d l h u) l h ks us → Asc Ent.n (us.flatMap (ents d)) ∧ ∀ e ∈ us.flatMap (ents d), l ≤ e.n ∧ e.n < h := by
      intro ks
      induction ks with
      | nil =>
        intro us l h hb
        match us, hb with
        | [v], hb =>
          rw [List.flatMap_cons, List.flatMap_nil, List.append_nil]
          exact ⟨bnd_asc d hb.2, bnd_ents d hb.2⟩
      | cons k0 ks ih =>
        intro us l h hb
        match us, hb with
        | v :: us, hb =>
          obtain ⟨h1, h2, h3, h4⟩ := hb
          obtain ⟨i1, i2⟩ := ih us k0.n h h4
          rw [List.flatMap_cons]
          refine ⟨asc_app (bnd_asc d h3) i1 fun x hx y hy => ?_, fun e he => ?_⟩
          · have := bnd_ents d h3 x hx; have := i2 y hy; omega
          · rcases List.mem_append.1 he with he | he
            · have := bnd_ents d h3 e he; omega
            · have := i2 e he; omega
    exact (go t.1 t.2 l h hb).1
/-! ### Set -/
def insE (l : List Ent) (e : Ent) : List Ent := l.filter (fun x => decide (x.n < e.n)) ++ e :: l.filter (fun x => decide (e.n < x.n))
theorem filter_all {α : Type} {p : α → Bool} {l : List α} (h : ∀ x ∈ l, p x = true) : l.filter p = l := List.filter_eq_self.2 h
theorem filter_none {α : Type} {p : α → Bool} {l : List α} (h : ∀ x ∈ l, p x = false) : l.filter p = [] := List.filter_eq_nil_iff.2 fun x hx => by rw [h x hx]; exact Bool.false_ne_true
theorem insE_mid {a u b : List Ent} {e : Ent} (ha : ∀ x ∈ a, x.n < e.n) (hb : ∀ x ∈ b, e.n < x.n) : insE (a ++ (u ++ b)) e = a ++ (insE u e ++ b) := by
  unfold insE
  rw [List.filter_append, List.filter_append, List.filter_append, List.filter_append,
    filter_all (l := a) (fun x hx => by simpa using ha x hx), filter_none (l := b) (fun x hx => by have := hb x hx; simp; omega),
    filter_none (l := a) (fun x hx => by have := ha x hx; simp; omega), filter_all (l := b) (fun x hx => by simpa using hb x hx)]
  simp
theorem take_lo {l : List Ent} {k : Nat} {x : Ent} (h : x ∈ l.take (lo Ent.n l k)) : x.n < k := by
  obtain ⟨j, hj, rfl⟩ := List.getElem_of_mem h
  rw [List.length_take] at hj
  rw [List.getElem_take]
  exact lo_below (by omega) (by omega)
theorem set_leaf {es : List Ent} (ha : Asc Ent.n es) (e : Ent) : setT 0 es e = insE es e := by
  have hll := lo_le (g := Ent.n) es e.n
  cases hat : isAt Ent.n es e.n
  · rw [set0_no hat]
    have hd : ∀ x ∈ es.drop (lo Ent.n es e.n), e.n < x.n := by
      intro x hx
      obtain ⟨j, hj, rfl⟩ := List.getElem_of_mem hx
      rw [List.length_drop] at hj
      rw [List.getElem_drop]
      have h1 := lo_above ha (k := e.n) (j := lo Ent.n es e.n + j) (by omega) (by omega)
      rcases Nat.lt_or_eq_of_le h1 with h1 | h1
      · exact h1
      · exfalso
        have h0 : lo Ent.n es e.n < es.length := by omega
        have h2 := lo_at (g := Ent.n) h0
        have hne : es[lo Ent.n es e.n].n ≠ e.n := by
          intro h3
          rw [isAt, List.getElem?_eq_getElem h0] at hat
          simp [h3] at hat
        rcases Nat.eq_zero_or_pos j with h3 | h3
        · have : ∀ i (hi : i < es.length), i = lo Ent.n es e.n → es[i].n ≠ e.n := fun i hi h => by subst h; exact hne
          exact this _ (by omega) (by omega) h1.symm
        · have := ha.lt (show lo Ent.n es e.n < lo Ent.n es e.n + j by omega) (by omega)
          omega
    conv => rhs; rw [← List.take_append_drop (lo Ent.n es e.n) es]
    have := insE_mid (u := []) (fun x hx => take_lo (l := es) (k := e.n) hx) hd
    rw [List.nil_append] at this
    rw [this]
    rfl
  · rw [set0_yes hat]
    have h0 : lo Ent.n es e.n < es.length := by
      rcases Nat.lt_or_ge (lo Ent.n es e.n) es.length with h | h
      · exact h
      · rw [isAt, List.getElem?_eq_none h] at hat; cases hat
    have he : es[lo Ent.n es e.n].n = e.n := by
      rw [isAt, List.getElem?_eq_getElem h0] at hat
      simpa using hat
    have hd : ∀ x ∈ es.drop (lo Ent.n es e.n + 1), e.n < x.n := by
      intro x hx
      obtain ⟨j, hj, rfl⟩ := List.getElem_of_mem hx
      rw [List.length_drop] at hj
      rw [List.getElem_drop]
      have := ha.lt (show lo Ent.n es e.n < lo Ent.n es e.n + 1 + j by omega) (by omega)
      omega
    rw [List.set_eq_take_append_cons_drop, if_pos h0]
    have h1 : es = es.take (lo Ent.n es e.n) ++ ([es[lo Ent.n es e.n]] ++ es.drop (lo Ent.n es e.n + 1)) := by
      rw [List.singleton_append, ← List.drop_eq_getElem_cons h0, List.take_append_drop]
    conv => rhs; rw [h1]
    rw [insE_mid (fun x hx => take_lo (l := es) (k := e.n) hx) hd]
    simp [insE, he]
    rfl
end Go.Proofs.Ytpkhomfblilkhaa.E
