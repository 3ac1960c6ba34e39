/- Trees: what they are, how they lie in memory, what the program makes of them. -/
import Derived.Test.YtpkhomfblilkhaaF6
import Derived.Test.YtpkhomfblilkhaaF3E
import Derived.Test.YtpkhomfblilkhaaF3K
import Derived.Test.YtpkhomfblilkhaaF3P
import Derived.Test.YtpkhomfblilkhaaF4E
import Derived.Test.YtpkhomfblilkhaaF4K
import Derived.Test.YtpkhomfblilkhaaF4P
namespace Go.Proofs.Ytpkhomfblilkhaa.E
set_option linter.all false
open Go Go.RowKit

/-- A tree of depth d: entries in a leaf; keys and kids. -/
def Tr : Nat → Type
  | 0 => List Ent
  | d + 1 => List Ky × List (Tr d)
/-- Many of them, one behind the other. -/
inductive Reps {α : Type} (R : α → Value → Mem → Prop) : List α → List Value → Mem → Prop
  | nil : Reps R [] [] []
  | cons {t p M ts ps MM} : R t p M → Reps R ts ps MM → Reps R (t :: ts) (p :: ps) (M ++ MM)
/-- A part of a tree in memory. -/
def Rep : (d : Nat) → Tr d → Value → Mem → Prop
  | 0, es, p, M => ∃ b v Mv, p = .iface 109 (.pointer (some ⟨b, 0, none⟩)) ∧ Sl 28 80 (List.length (α := Ent) es) (rows rE es) v Mv ∧ M = (b, 111, [v]) :: Mv
  | d + 1, t, p, M => ∃ b vk Mk vp Mp ps MM, p = .iface 103 (.pointer (some ⟨b, 0, none⟩)) ∧ Sl 23 40 t.1.length (rows rK t.1) vk Mk ∧ Sl 37 1 t.2.length ps vp Mp ∧ Reps (Rep d) t.2 ps MM ∧ M = (b, 106, [vk, vp]) :: (Mk ++ (Mp ++ MM))
/-- What the code leans on: keys rise, one kid more than keys, not too many. -/
def Ok : (d : Nat) → Tr d → Prop
  | 0, es => Asc Ent.n (α := Ent) es ∧ List.length (α := Ent) es ≤ 30
  | d + 1, t => Asc Ky.n t.1 ∧ t.2.length = t.1.length + 1 ∧ t.2.length ≤ 50 ∧ ∀ u ∈ t.2, Ok d u

/-! ### What the code makes of them -/
/-- Parted, where there is too much: what stays, what is behind, the key between. -/
def cutT : (d : Nat) → Tr d → Option (Tr d × Tr d × Ky)
  | 0, es => if List.length (α := Ent) es ≤ 12 then none else
    let k := List.length (α := Ent) es / 2
    some (List.take (α := Ent) k es, List.drop (α := Ent) k es, ((List.drop (α := Ent) k es).headD Ent.zero).ky)
  | _ + 1, t => if t.2.length ≤ 20 then none else
    let k := t.2.length / 2
    some ((t.1.take (k - 1), t.2.take k), (t.1.drop k, t.2.drop k), t.1[k - 1]?.getD Ky.zero)
/-- Kid i parted, where it has too much. -/
def icutT (d : Nat) (t : Tr (d + 1)) (i : Nat) : Tr (d + 1) :=
  match t.2[i]? with
  | none => t
  | some u => match cutT d u with
    | none => t
    | some (a, b, k) => (t.1.take i ++ k :: t.1.drop i, t.2.take i ++ a :: b :: t.2.drop (i + 1))
def setT : (d : Nat) → Tr d → Ent → Tr d
  | 0, es, e => if isAt Ent.n (α := Ent) es e.n then List.set (α := Ent) es (lo Ent.n (α := Ent) es e.n) e else List.take (α := Ent) (lo Ent.n (α := Ent) es e.n) es ++ e :: List.drop (α := Ent) (lo Ent.n (α := Ent) es e.n) es
  | d + 1, t, e => match t.2[up Ky.n t.1 e.n]? with
    | none => t
    | some u => icutT d (t.1, t.2.set (up Ky.n t.1 e.n) (setT d u e)) (up Ky.n t.1 e.n)
def freshT : (d : Nat) → Tr d → Ent → Bool
  | 0, es, e => !isAt Ent.n (α := Ent) es e.n
  | d + 1, t, e => match t.2[up Ky.n t.1 e.n]? with
    | none => false
    | some u => freshT d u e

/-! ### Many parts -/
section
variable {α : Type} {R : α → Value → Mem → Prop}
theorem Reps.len {ts : List α} {ps : List Value} {M : Mem} (h : Reps R ts ps M) : ps.length = ts.length := by
  induction h with
  | nil => rfl
  | cons _ _ ih => simp [ih]
theorem Reps.app {ts us : List α} {ps qs : List Value} {M N : Mem} (h : Reps R ts ps M) (k : Reps R us qs N) : Reps R (ts ++ us) (ps ++ qs) (M ++ N) := by
  induction h with
  | nil => exact k
  | cons h1 _ ih => rw [List.append_assoc]; exact .cons h1 ih
theorem Reps.cut {ts : List α} {ps : List Value} {M : Mem} (h : Reps R ts ps M) (i : Nat) : ∃ A B, M = A ++ B ∧ Reps R (ts.take i) (ps.take i) A ∧ Reps R (ts.drop i) (ps.drop i) B := by
  induction h generalizing i with
  | nil => exact ⟨[], [], rfl, by simpa using .nil, by simpa using .nil⟩
  | @cons t p M ts ps MM h1 h2 ih =>
    cases i with
    | zero => exact ⟨[], _, rfl, .nil, .cons h1 h2⟩
    | succ i =>
      obtain ⟨A, B, rfl, hA, hB⟩ := ih i
      exact ⟨M ++ A, B, by simp, .cons h1 hA, hB⟩
theorem Reps.at {ts : List α} {ps : List Value} {M : Mem} (h : Reps R ts ps M) {i : Nat} (hi : i < ts.length) :
    ∃ A N B p, M = A ++ (N ++ B) ∧ ps[i]? = some p ∧ R ts[i] p N ∧ Reps R (ts.take i) (ps.take i) A ∧ Reps R (ts.drop (i + 1)) (ps.drop (i + 1)) B := by
  obtain ⟨A, B, rfl, hA, hB⟩ := h.cut i
  have hl := h.len
  have hi' : i < ps.length := by omega
  rw [List.drop_eq_getElem_cons hi, List.drop_eq_getElem_cons hi'] at hB
  cases hB with
  | cons h1 h2 => exact ⟨A, _, _, _, rfl, List.getElem?_eq_getElem hi', h1, hA, h2⟩
theorem Reps.put {ts : List α} {ps : List Value} {A N B : Mem} {i : Nat} (hi : i < ts.length) (hl : ps.length = ts.length) (hA : Reps R (ts.take i) (ps.take i) A) {t : α} {p : Value} (h : R t p N) (hB : Reps R (ts.drop (i + 1)) (ps.drop (i + 1)) B) : Reps R (ts.set i t) (ps.set i p) (A ++ (N ++ B)) := by
  rw [List.set_eq_take_append_cons_drop, if_pos hi, List.set_eq_take_append_cons_drop, if_pos (by omega)]
  exact hA.app (.cons h hB)
end
end Go.Proofs.Ytpkhomfblilkhaa.E
