/- Trees in plain Lean: parted and put together. -/
import Derived.Test.YtpkhomfblilkhaaP2
namespace Go.Proofs.Ytpkhomfblilkhaa.E
set_option linter.all false

theorem cut_ents : ∀ (d : Nat) {u a b : Tr d} {k : Ky}, cutT d u = some (a, b, k) → ents d u = ents d a ++ ents d b
  | 0, u, a, b, k, h => by
    by_cases hc : List.length (α := Ent) u ≤ 12
    · rw [cut0_no hc] at h; cases h
    · rw [cut0_yes hc] at h
      cases Option.some.inj h
      exact (List.take_append_drop _ _).symm
  | d + 1, u, a, b, k, h => by
    by_cases hc : u.2.length ≤ 20
    · rw [cutI_no hc] at h; cases h
    · rw [cutI_yes hc] at h
      cases Option.some.inj h
      show u.2.flatMap (ents d) = (u.2.take _).flatMap (ents d) ++ (u.2.drop _).flatMap (ents d)
      rw [← List.flatMap_append, List.take_append_drop]
theorem btw_le {α : Type} {B : Nat → Nat → α → Prop} : ∀ {l h : Nat} {ks : List Ky} {us : List α}, Btw B l h ks us → l ≤ h
  | _, _, [], [_], hb => hb.1
  | _, _, _ :: _, _ :: _, ⟨h1, h2, _, _⟩ => by omega
  | _, _, [], [], hb => hb.elim
  | _, _, [], _ :: _ :: _, hb => hb.elim
  | _, _, _ :: _, [], hb => hb.elim
theorem btw_split {α : Type} {B : Nat → Nat → α → Prop} : ∀ (m : Nat) {l h : Nat} {ks : List Ky} {us : List α} (hm : m < ks.length), Btw B l h ks us →
    Btw B l ks[m].n (ks.take m) (us.take (m + 1)) ∧ Btw B ks[m].n h (ks.drop (m + 1)) (us.drop (m + 1)) ∧ l < ks[m].n ∧ ks[m].n < h
  | 0, l, h, k :: ks, u :: us, _, ⟨h1, h2, h3, h4⟩ => ⟨⟨Nat.le_of_lt h1, h3⟩, h4, h1, h2⟩
  | m + 1, l, h, k :: ks, u :: us, hm, ⟨h1, h2, h3, h4⟩ => by
    obtain ⟨i1, i2, i3, i4⟩ := btw_split m (by simpa using hm) h4
    exact ⟨⟨h1, i3, h3, i1⟩, i2, Nat.lt_trans h1 i3, i4⟩
  | _, _, _, [], _, hm, _ => by simp at hm
  | _, _, _, _ :: _, [], _, hb => hb.elim
theorem btw_join {α : Type} {B : Nat → Nat → α → Prop} : ∀ {l h : Nat} {k : Ky} {ks js : List Ky} {us vs : List α}, Btw B l k.n ks us → Btw B k.n h js vs → l < k.n → k.n < h → Btw B l h (ks ++ k :: js) (us ++ vs)
  | _, _, _, [], _, [_], _, h1, h2, h3, h4 => ⟨h3, h4, h1.2, h2⟩
  | _, _, _, k0 :: ks, _, u :: us, _, ⟨a1, a2, a3, a4⟩, h2, h3, h4 => ⟨a1, Nat.lt_trans a2 h4, a3, btw_join a4 h2 a2 h4⟩
  | _, _, _, [], _, [], _, hb, _, _, _ => hb.elim
  | _, _, _, [], _, _ :: _ :: _, _, hb, _, _, _ => hb.elim
  | _, _, _, _ :: _, _, [], _, hb, _, _, _ => hb.elim
theorem cut_bnd : ∀ (d : Nat) {l h : Nat} {u a b : Tr d} {k : Ky}, Bnd d l h u → (∀ t : Tr (d - 1) , True) → cutT d u = some (a, b, k) → Bnd d l k.n a ∧ Bnd d k.n h b ∧ l < k.n ∧ k.n < h
  | 0, l, h, u, a, b, k, hb, _, hc => by
    by_cases h12 : List.length (α := Ent) u ≤ 12
    · rw [cut0_no h12] at hc; cases hc
    · rw [cut0_yes h12] at hc
      cases Option.some.inj hc
      obtain ⟨ha, hr⟩ := hb
      obtain ⟨es, hes⟩ : ∃ es : List Ent, es = u := ⟨_, rfl⟩
      obtain ⟨m, hm⟩ : ∃ m, m = List.length (α := Ent) u / 2 := ⟨_, rfl⟩
      subst hes
      rw [← hm]
      have hml : m < es.length := by omega
      have hd : es.drop m = es[m] :: es.drop (m + 1) := List.drop_eq_getElem_cons hml
      have hk : ((es.drop m).headD Ent.zero).ky.n = es[m].n := by rw [hd]; rfl
      rw [hk]
      have h0l : 0 < es.length := by omega
      have hr0 := hr (es[0]'h0l) (List.getElem_mem h0l)
      have hrm := hr es[m] (List.getElem_mem hml)
      have h0m := ha.lt (show 0 < m by omega) hml
      refine ⟨⟨ha.sublist (List.take_sublist _ _), fun e he => ?_⟩, ⟨ha.sublist (List.drop_sublist _ _), fun e he => ?_⟩, Nat.lt_of_le_of_lt hr0.1 h0m, hrm.2⟩
      · refine ⟨(hr e (List.mem_of_mem_take he)).1, ?_⟩
        obtain ⟨j, hj, rfl⟩ := List.getElem_of_mem he
        rw [List.length_take] at hj
        rw [List.getElem_take]
        exact ha.lt (show j < m by omega) hml
      · refine ⟨?_, (hr e (List.mem_of_mem_drop he)).2⟩
        obtain ⟨j, hj, rfl⟩ := List.getElem_of_mem he
        rw [List.length_drop] at hj
        rw [List.getElem_drop]
        rcases Nat.eq_zero_or_pos j with h3 | h3
        · subst h3; exact Nat.le_refl _
        · exact Nat.le_of_lt (ha.lt (by omega) (by omega))
  | d + 1, l, h, u, a, b, k, hb, _, hc => by
    by_cases h20 : u.2.length ≤ 20
    · rw [cutI_no h20] at hc; cases hc
    · rw [cutI_yes h20] at hc
      cases Option.some.inj hc
      have hlen := Btw.len hb
      obtain ⟨m, hm⟩ : ∃ m, u.2.length / 2 = m + 1 := ⟨u.2.length / 2 - 1, by omega⟩
      rw [hm, Nat.add_sub_cancel]
      have hml : m < u.1.length := by omega
      rw [List.getElem?_eq_getElem hml, Option.getD_some]
      exact btw_split m hml hb
end Go.Proofs.Ytpkhomfblilkhaa.E
