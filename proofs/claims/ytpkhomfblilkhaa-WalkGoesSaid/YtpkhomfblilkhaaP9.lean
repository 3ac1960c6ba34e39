/- Trees in plain Lean: what a walk tells, parted; the same entries in another order. -/
import Derived.Test.YtpkhomfblilkhaaF25
namespace Go.Proofs.Ytpkhomfblilkhaa.E
set_option linter.all false

theorem told_none {es : List Ent} {f g : Ky} {wi : Bool} (h : ∀ x ∈ es, g.n ≤ x.n) : toldL es f g wi = [] := filter_none fun x hx => by have := h x hx; simp; omega
theorem told_cons {x : Ent} {l : List Ent} {f g : Ky} : toldL (x :: l) f g true = if f.n ≤ x.n ∧ x.n < g.n then x :: toldL l f g true else toldL l f g true := by
  unfold toldL
  rw [List.filter_cons]
  simp [behind]
theorem told_split {a b c : Ky} (hab : a.n ≤ b.n) (hbc : b.n ≤ c.n) : ∀ {es : List Ent}, Asc Ent.n es → toldL es a b true ++ toldL es b c true = toldL es a c true
  | [], _ => rfl
  | x :: l, ha => by
    obtain ⟨h1, h2⟩ := List.pairwise_cons.1 ha
    have ih := told_split hab hbc h2
    rw [told_cons, told_cons, told_cons]
    by_cases c1 : x.n < a.n
    · rw [if_neg (by omega), if_neg (by omega), if_neg (by omega)]; exact ih
    by_cases c2 : x.n < b.n
    · rw [if_pos (by omega), if_neg (by omega), if_pos (by omega), List.cons_append, ih]
    have e1 : toldL l a b true = [] := told_none fun y hy => by have := h1 y hy; omega
    rw [e1, List.nil_append] at ih
    rw [if_neg (by omega), e1, List.nil_append]
    by_cases c3 : x.n < c.n
    · rw [if_pos (by omega), if_pos (by omega), ih]
    · rw [if_neg (by omega), if_neg (by omega), ih]
theorem filter_ne (l : List Ent) (k : Nat) : (l.filter (fun x => decide (x.n < k)) ++ l.filter (fun x => decide (k < x.n))).Perm (delE l k) := by
  unfold delE
  induction l with
  | nil => exact .refl _
  | cons x l ih =>
    rcases Nat.lt_trichotomy x.n k with h | h | h
    · rw [List.filter_cons_of_pos (by simpa using h), List.filter_cons_of_neg (by simp; omega), List.filter_cons_of_pos (by simp; omega)]
      exact ih.cons x
    · rw [List.filter_cons_of_neg (by simp; omega), List.filter_cons_of_neg (by simp; omega), List.filter_cons_of_neg (by simpa using h)]
      exact ih
    · rw [List.filter_cons_of_neg (by simp; omega), List.filter_cons_of_pos (by simpa using h), List.filter_cons_of_pos (by simp; omega)]
      exact List.perm_middle.trans (ih.cons x)
theorem ins_perm {l r : List Ent} (h : l.Perm r) (e : Ent) : (insE l e).Perm (setR r e) := by
  unfold insE setR
  refine List.perm_middle.trans (((filter_ne l e.n).trans (h.filter _)).cons e |>.trans ?_)
  exact List.perm_append_comm (l₁ := [e])
theorem del_perm {l r : List Ent} (h : l.Perm r) (k : Nat) : (delE l k).Perm (delE r k) := h.filter _
theorem fold_perm : ∀ (l : List Ent) {a b : List Ent}, a.Perm b → (l.foldl insE a).Perm (l.foldl setR b)
  | [], _, _, h => h
  | e :: l, _, _, h => fold_perm l (ins_perm h e)
theorem all_perm (l : List Ent) : (insAll l).Perm (setAll l) := fold_perm l (.refl _)
/-- How many lie from a on, below c. -/
def cnt (l : List Ent) (a c : Ky) : Nat := (l.filter (fun e => decide (a.n ≤ e.n) && decide (e.n < c.n))).length
theorem cnt_told {es rs : List Ent} (h : es.Perm rs) (a c : Ky) : cnt rs a c = (toldL es a c true).length := by
  unfold cnt toldL
  exact ((h.filter _).length_eq).symm
theorem cnt_next {l : List Ent} {j : Nat} (h : j < l.length) (a c : Ky) : cnt (l.take (j + 1)) a c = if a.n ≤ l[j].n ∧ l[j].n < c.n then cnt (l.take j) a c + 1 else cnt (l.take j) a c := by
  unfold cnt
  rw [List.take_succ_eq_append_getElem h, List.filter_append, List.length_append]
  split <;> rename_i h1
  · rw [List.filter_cons_of_pos (by simpa using h1)]; rfl
  · rw [List.filter_cons_of_neg (by simpa using h1)]; rfl
theorem cnt_le (l : List Ent) (a c : Ky) : cnt l a c ≤ l.length := List.length_filter_le _ _
end Go.Proofs.Ytpkhomfblilkhaa.E
