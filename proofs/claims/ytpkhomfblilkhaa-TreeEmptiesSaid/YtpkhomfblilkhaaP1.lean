/- Trees in plain Lean: what they hold, between which keys. -/
import Derived.Test.YtpkhomfblilkhaaF14
namespace Go.Proofs.Ytpkhomfblilkhaa.E
set_option linter.all false

/-- The entries, from the least key on. -/
def ents : (d : Nat) → Tr d → List Ent
  | 0, es => es
  | d + 1, t => t.2.flatMap (ents d)
/-- Kids between keys. -/
def Btw {α : Type} (B : Nat → Nat → α → Prop) : Nat → Nat → List Ky → List α → Prop
  | l, h, [], [u] => l ≤ h ∧ B l h u
  | l, h, k :: ks, u :: us => l < k.n ∧ k.n < h ∧ B l k.n u ∧ Btw B k.n h ks us
  | _, _, _, _ => False
/-- All keys lie from l on, below h, each where it must. -/
def Bnd : (d : Nat) → Nat → Nat → Tr d → Prop
  | 0, l, h, es => Asc Ent.n (α := Ent) es ∧ ∀ e ∈ (show List Ent from es), l ≤ e.n ∧ e.n < h
  | d + 1, l, h, t => Btw (fun l h u => Bnd d l h u) l h t.1 t.2
theorem Btw.len {α : Type} {B : Nat → Nat → α → Prop} : ∀ {l h : Nat} {ks : List Ky} {us : List α}, Btw B l h ks us → us.length = ks.length + 1
  | _, _, [], [_], _ => rfl
  | _, _, k :: ks, u :: us, ⟨_, _, _, h⟩ => by simp [Btw.len h]
  | _, _, [], [], h => h.elim
  | _, _, [], _ :: _ :: _, h => h.elim
  | _, _, _ :: _, [], h => h.elim
/-! ### The first entry behind a key -/
def behind (k : Nat) (wi : Bool) (e : Ent) : Bool := if wi then decide (k ≤ e.n) else decide (k < e.n)
theorem head_findIdx {α : Type} (p : α → Bool) : ∀ (l : List α), (l.drop (l.findIdx p)).head? = l.find? p
  | [] => rfl
  | x :: l => by
    rw [List.findIdx_cons, List.find?_cons]
    cases hp : p x
    · simpa using head_findIdx p l
    · rfl
theorem up_of_lo {α : Type} {g : α → Nat} {l : List α} (ha : Asc g l) (k : Nat) : (if isAt g l k = true then lo g l k + 1 else lo g l k) = up g l k := by
  have hlo := lo_le (g := g) l k
  have h1 : ∀ j (h : j < l.length), j < up g l k → g l[j] ≤ k := fun j h hj => by
    have := List.not_of_lt_findIdx hj
    simpa using this
  have h2 : ∀ h : up g l k < l.length, k < g l[up g l k] := fun h => of_decide_eq_true (List.findIdx_getElem (w := h))
  have h3 : up g l k ≤ l.length := List.findIdx_le_length
  have key : ∀ i, i ≤ l.length → (∀ j (h : j < l.length), j < i → g l[j] ≤ k) → (∀ h : i < l.length, k < g l[i]) → i = up g l k := by
    intro i hi a1 a2
    rcases Nat.lt_trichotomy i (up g l k) with h | h | h
    · have := h1 i (by omega) h; have := a2 (by omega); omega
    · exact h
    · have := a1 _ (by omega) h; have := h2 (by omega); omega
  by_cases hl : lo g l k < l.length
  · have hat : isAt g l k = decide (g l[lo g l k] = k) := by rw [isAt, List.getElem?_eq_getElem hl]
    rw [hat]
    simp only [decide_eq_true_eq]
    split
    · rename_i he
      refine key _ (by omega) (fun j hj hjl => ?_) (fun h => ?_)
      · rcases Nat.lt_or_eq_of_le (show j ≤ lo g l k by omega) with h | h
        · have := lo_below hj h; omega
        · have : ∀ i (hi : i < l.length), i = lo g l k → g l[i] = k := fun i hi e => by subst e; exact he
          have := this j hj h; omega
      · have := ha.lt (show lo g l k < lo g l k + 1 by omega) h; omega
    · rename_i he
      refine key _ hlo (fun j hj hjl => ?_) (fun h => ?_)
      · have := lo_below hj hjl; omega
      · have := lo_at (g := g) h; omega
  · have hat : isAt g l k = false := by rw [isAt, List.getElem?_eq_none (by omega)]
    rw [hat, if_neg (by simp)]
    exact key _ hlo (fun j hj hjl => by have := lo_below hj hjl; omega) (fun h => absurd h hl)
theorem after_leaf {es : List Ent} (ha : Asc Ent.n es) (k : Nat) (wi : Bool) : afterT 0 es k wi = es.find? (behind k wi) := by
  have hj : (if isAt Ent.n es k && !wi then lo Ent.n es k + 1 else lo Ent.n es k) = es.findIdx (behind k wi) := by
    cases wi
    · have := up_of_lo ha k
      rw [Bool.not_false, Bool.and_true]
      exact this
    · rw [Bool.not_true, Bool.and_false, if_neg (by simp)]
      rfl
  rw [← head_findIdx, ← hj]
  rfl
theorem bnd_ents : ∀ (d : Nat) {l h : Nat} {t : Tr d}, Bnd d l h t → ∀ e ∈ ents d t, l ≤ e.n ∧ e.n < h
  | 0, _, _, _, hb => hb.2
  | d + 1, l, h, t, hb => by
    have go : ∀ (ks : List Ky) (us : List (Tr d)) (l h : Nat), Btw (fun l h u => Bnd d l h u) l h ks us → ∀ u ∈ us, ∀ e ∈ ents d u, l ≤ e.n ∧ e.n < h := by
      intro ks
      induction ks with
      | nil =>
        intro us l h hb u hu e he
        match us, hb with
        | [v], hb =>
          obtain rfl := List.mem_singleton.1 hu
          exact bnd_ents d hb.2 e he
      | cons k ks ih =>
        intro us l h hb u hu e he
        match us, hb with
        | v :: us, hb =>
          obtain ⟨h1, h2, h3, h4⟩ := hb
          rcases List.mem_cons.1 hu with rfl | hu
          · have := bnd_ents d h3 e he; omega
          · have := ih us k.n h h4 u hu e he; omega
    intro e he
    obtain ⟨u, hu, he⟩ := List.mem_flatMap.1 he
    exact go t.1 t.2 l h hb u hu e he
theorem up_cons (k0 : Ky) (ks : List Ky) (k : Nat) : up Ky.n (k0 :: ks) k = if k < k0.n then 0 else up Ky.n ks k + 1 := by
  unfold up; rw [List.findIdx_cons]
  by_cases h : k < k0.n <;> simp [h]
theorem find_btw {d : Nat} (k : Nat) (wi : Bool) : ∀ (ks : List Ky) (us : List (Tr d)) (l h : Nat), Btw (fun l h u => Bnd d l h u) l h ks us → (us.flatMap (ents d)).find? (behind k wi) = ((us.drop (up Ky.n ks k)).flatMap (ents d)).find? (behind k wi)
  | [], us, _, _, _ => by rw [show up Ky.n [] k = 0 from rfl, List.drop_zero]
  | k0 :: ks, [], _, _, hb => hb.elim
  | k0 :: ks, u :: us, l, h, hb => by
    obtain ⟨h1, h2, h3, h4⟩ := hb
    rw [up_cons]
    split
    · rfl
    · rename_i hk
      rw [List.drop_succ_cons, ← find_btw k wi ks us k0.n h h4, List.flatMap_cons, List.find?_append]
      have : (ents d u).find? (behind k wi) = none := by
        rw [List.find?_eq_none]
        intro e he
        have := bnd_ents d h3 e he
        unfold behind
        split <;> simp <;> omega
      rw [this]; rfl
theorem after_spec (k : Nat) (wi : Bool) : ∀ (d : Nat) {l h : Nat} {t : Tr d}, Bnd d l h t → afterT d t k wi = (ents d t).find? (behind k wi)
  | 0, _, _, _, hb => after_leaf hb.1 k wi
  | d + 1, l, h, t, hb => by
    have ih : ∀ u ∈ t.2, afterT d u k wi = (ents d u).find? (behind k wi) := by
      have go : ∀ (ks : List Ky) (us : List (Tr d)) (l h : Nat), Btw (fun l h u => Bnd d l h u) l h ks us → ∀ u ∈ us, afterT d u k wi = (ents d u).find? (behind k wi) := by
        intro ks
        induction ks with
        | nil =>
          intro us l h hb u hu
          match us, hb with
          | [v], hb =>
            obtain rfl := List.mem_singleton.1 hu
            exact after_spec k wi d hb.2
        | cons k0 ks ih =>
          intro us l h hb u hu
          match us, hb with
          | v :: us, hb =>
            obtain ⟨h1, h2, h3, h4⟩ := hb
            rcases List.mem_cons.1 hu with rfl | hu
            · exact after_spec k wi d h3
            · exact ih us k0.n h h4 u hu
      exact go t.1 t.2 l h hb
    show (t.2.drop (up Ky.n t.1 k)).findSome? (fun u => afterT d u k wi) = (t.2.flatMap (ents d)).find? (behind k wi)
    rw [find_btw k wi t.1 t.2 l h hb, List.find?_flatMap]
    have : ∀ us : List (Tr d), (∀ u ∈ us, u ∈ t.2) → us.findSome? (fun u => afterT d u k wi) = us.findSome? (fun u => (ents d u).find? (behind k wi)) := by
      intro us
      induction us with
      | nil => intro _; rfl
      | cons v us ihu =>
        intro hm
        rw [List.findSome?_cons, List.findSome?_cons, ih v (hm v (by simp)), ihu fun u hu => hm u (by simp [hu])]
    exact this _ fun u hu => List.mem_of_mem_drop hu
end Go.Proofs.Ytpkhomfblilkhaa.E
