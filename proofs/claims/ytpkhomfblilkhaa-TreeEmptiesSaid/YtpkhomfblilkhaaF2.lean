/- Keys as numbers; rows of elements as cells; places in rising rows. No program in sight, but for the two contracts of Compare at the end. -/
import Derived.Test.YtpkhomfblilkhaaF1
namespace Go.Proofs.Ytpkhomfblilkhaa.E
set_option linter.all false
open Go Go.RowKit

def num (l : List Int) : Nat := l.foldl (fun a x => a * 256 + x.toNat) 0
theorem fold_num : ∀ (l : List Int) (a : Nat), l.foldl (fun a x => a * 256 + x.toNat) a = a * 256 ^ l.length + num l
  | [], a => by simp [num]
  | x :: l, a => by
    rw [num, List.foldl_cons, List.foldl_cons, fold_num l (a * 256 + x.toNat), fold_num l (0 * 256 + x.toNat), List.length_cons, Nat.pow_succ]
    simp only [Nat.add_mul, Nat.zero_mul, Nat.zero_add]
    rw [Nat.mul_assoc, Nat.mul_comm 256, Nat.add_assoc]
theorem num_cons (x : Int) (l : List Int) : num (x :: l) = x.toNat * 256 ^ l.length + num l := by
  rw [num, List.foldl_cons, fold_num]; simp
theorem num_lt : ∀ (l : List Int), AllB l → num l < 256 ^ l.length
  | [], _ => by simp [num]
  | x :: l, h => by
    have ih := num_lt l fun y hy => h y (by simp [hy])
    obtain ⟨h1, h2⟩ := h x (by simp)
    rw [num_cons, List.length_cons, Nat.pow_succ]
    have h3 : x.toNat + 1 ≤ 256 := by omega
    have h4 := Nat.mul_le_mul_right (256 ^ l.length) h3
    rw [Nat.add_mul, Nat.one_mul] at h4
    rw [Nat.mul_comm _ 256]
    omega
def cmpN (m n : Nat) : Int := if m < n then -1 else if n < m then 1 else 0
theorem cmp_num : ∀ (a b : List Int), AllB a → AllB b → a.length = b.length → cmpL a b = cmpN (num a) (num b)
  | [], [], _, _, _ => by simp [cmpL, cmpN]
  | x :: a, y :: b, ha, hb, h => by
    have h' : a.length = b.length := by simpa using h
    have ih := cmp_num a b (fun z hz => ha z (by simp [hz])) (fun z hz => hb z (by simp [hz])) h'
    have la := num_lt a fun z hz => ha z (by simp [hz])
    have lb := num_lt b fun z hz => hb z (by simp [hz])
    obtain ⟨h1, h2⟩ := ha x (by simp)
    obtain ⟨h3, h4⟩ := hb y (by simp)
    rw [cmpL, num_cons, num_cons, h']
    rw [h'] at la
    by_cases e1 : x < y
    · have := Nat.mul_le_mul_right (256 ^ b.length) (show x.toNat + 1 ≤ y.toNat by omega)
      rw [Nat.add_mul, Nat.one_mul] at this
      rw [if_pos e1, cmpN, if_pos (by omega)]
    by_cases e2 : y < x
    · have := Nat.mul_le_mul_right (256 ^ b.length) (show y.toNat + 1 ≤ x.toNat by omega)
      rw [Nat.add_mul, Nat.one_mul] at this
      rw [if_neg e1, if_pos e2, cmpN, if_neg (by omega), if_pos (by omega)]
    · obtain rfl : x = y := by omega
      rw [if_neg e1, if_neg e2, ih, cmpN, cmpN]
      simp only [Nat.add_lt_add_iff_left]
theorem num_inj : ∀ (a b : List Int), AllB a → AllB b → a.length = b.length → num a = num b → a = b
  | [], [], _, _, _, _ => rfl
  | x :: a, y :: b, ha, hb, h, hn => by
    have h' : a.length = b.length := by simpa using h
    have la := num_lt a fun z hz => ha z (by simp [hz])
    have lb := num_lt b fun z hz => hb z (by simp [hz])
    obtain ⟨h1, h2⟩ := ha x (by simp)
    obtain ⟨h3, h4⟩ := hb y (by simp)
    rw [num_cons, num_cons, h'] at hn
    rw [h'] at la
    have e : x = y := by
      rcases Int.lt_trichotomy x y with e1 | e1 | e1
      · have := Nat.mul_le_mul_right (256 ^ b.length) (show x.toNat + 1 ≤ y.toNat by omega)
        rw [Nat.add_mul, Nat.one_mul] at this
        omega
      · exact e1
      · have := Nat.mul_le_mul_right (256 ^ b.length) (show y.toNat + 1 ≤ x.toNat by omega)
        rw [Nat.add_mul, Nat.one_mul] at this
        omega
    subst e
    rw [num_inj a b (fun z hz => ha z (by simp [hz])) (fun z hz => hb z (by simp [hz])) h' (by omega)]
def Ky.n (k : Ky) : Nat := num k.b
def Ent.n (e : Ent) : Nat := e.ky.n
theorem Ky.n_inj {a b : Ky} (h : a.n = b.n) : a = b := Ky.ext' (num_inj _ _ a.isb b.isb (a.len.trans b.len.symm) h)
theorem Ky.n_iff {a b : Ky} : a.n = b.n ↔ a = b := ⟨Ky.n_inj, fun h => by rw [h]⟩
theorem Ky.beq {a b : Ky} : (a.b == b.b) = decide (a.n = b.n) := by
  rw [Bool.eq_iff_iff, beq_iff_eq, decide_eq_true_eq, Ky.n_iff]
  exact ⟨Ky.ext', fun h => by rw [h]⟩
theorem cmp_ky (a b : Ky) : cmpL a.b b.b = cmpN a.n b.n := cmp_num _ _ a.isb b.isb (a.len.trans b.len.symm)
theorem compare_k (a b : Ky) (w : World) : Calls Try.prog 42 #[.agg (U a.b).toArray, .agg (U b.b).toArray] w fun e w' => e = .returned (.int .i64 (cmpN a.n b.n)) ∧ Below w.heap.size w w' :=
  (compare_p a.b b.b w a.len b.len a.isb b.isb).mono fun _ _ ⟨h1, h2⟩ => ⟨by rw [h1, cmp_ky], h2⟩
theorem rcompare_k (a b : Ky) (w : World) : Calls Try.prog 17 #[.agg (U a.b).toArray, .agg (U b.b).toArray] w fun e w' => e = .returned (.int .i64 (cmpN a.n b.n)) ∧ Below w.heap.size w w' :=
  (compare_r a.b b.b w a.len b.len).mono fun _ _ ⟨h1, h2⟩ => ⟨by rw [h1, cmp_ky], h2⟩

/-! ### Rows of elements as cells -/
section
variable {α : Type} (f : α → List Value)
def rows (l : List α) : List Value := l.flatMap f
variable {f} {z : Nat} (hz : ∀ a, (f a).length = z)
include hz
theorem rows_length (l : List α) : (rows f l).length = l.length * z := by
  induction l with
  | nil => simp [rows]
  | cons a l ih => simp only [rows, List.flatMap_cons, List.length_append, List.length_cons, hz] at ih ⊢; rw [ih, Nat.succ_mul, Nat.add_comm]
theorem rows_take (l : List α) (i : Nat) : (rows f l).take (i * z) = rows f (l.take i) := by
  by_cases h : i ≤ l.length
  · have e : rows f l = rows f (l.take i) ++ rows f (l.drop i) := by unfold rows; rw [← List.flatMap_append, List.take_append_drop]
    have hl : (rows f (l.take i)).length = i * z := by rw [rows_length hz, List.length_take, Nat.min_eq_left h]
    rw [e, ← hl, List.take_left]
  · rw [List.take_of_length_le (by rw [rows_length hz]; exact Nat.mul_le_mul_right _ (by omega)), List.take_of_length_le (by omega)]
theorem rows_drop (l : List α) (i : Nat) : (rows f l).drop (i * z) = rows f (l.drop i) := by
  by_cases h : i ≤ l.length
  · have e : rows f l = rows f (l.take i) ++ rows f (l.drop i) := by unfold rows; rw [← List.flatMap_append, List.take_append_drop]
    have hl : (rows f (l.take i)).length = i * z := by rw [rows_length hz, List.length_take, Nat.min_eq_left h]
    rw [e, ← hl, List.drop_left]
  · rw [List.drop_eq_nil_of_le (by rw [rows_length hz]; exact Nat.mul_le_mul_right _ (by omega)), List.drop_eq_nil_of_le (by omega)]; rfl
theorem rows_part (l : List α) {i : Nat} (h : i < l.length) : ((rows f l).drop (i * z)).take z = f l[i] := by
  rw [rows_drop hz, List.drop_eq_getElem_cons h, rows, List.flatMap_cons, ← hz l[i], List.take_left]
theorem rows_ins (l : List α) (i : Nat) (a : α) : (rows f l).take (i * z) ++ (f a ++ (rows f l).drop (i * z)) = rows f (l.take i ++ a :: l.drop i) := by
  rw [rows_take hz, rows_drop hz]; simp [rows]
theorem rows_del (l : List α) (i : Nat) : (rows f l).take (i * z) ++ (rows f l).drop ((i + 1) * z) = rows f (l.take i ++ l.drop (i + 1)) := by
  rw [rows_take hz, rows_drop hz]; simp [rows]
theorem rows_set (l : List α) {i : Nat} (h : i < l.length) (a : α) (junk : List Value) : splice (rows f l ++ junk) (i * z) (f a) = rows f (l.set i a) ++ junk := by
  have e1 : rows f l = rows f (l.take i) ++ (f l[i] ++ rows f (l.drop (i + 1))) := by
    have h0 : l = l.take i ++ (l[i] :: l.drop (i + 1)) := by rw [← List.drop_eq_getElem_cons h, List.take_append_drop]
    conv => lhs; rw [h0]
    unfold rows
    rw [List.flatMap_append, List.flatMap_cons]
  have e2 : rows f (l.set i a) = rows f (l.take i) ++ (f a ++ rows f (l.drop (i + 1))) := by
    rw [List.set_eq_take_append_cons_drop, if_pos h]; simp [rows]
  rw [e1, e2, splice_at (pre := rows f (l.take i)) (mid := f l[i]) (post := rows f (l.drop (i + 1)) ++ junk) (by simp) (by rw [rows_length hz, List.length_take, Nat.min_eq_left (by omega)]) (by rw [hz, hz])]
  simp
end
theorem rows_append {α : Type} (f : α → List Value) (a b : List α) : rows f (a ++ b) = rows f a ++ rows f b := by simp [rows]
theorem rows_nil {α : Type} (f : α → List Value) : rows f [] = [] := rfl
theorem rows_one {α : Type} {f : α → List Value} (h : ∀ a, ∀ v ∈ f a, v.oneCell' = true) (l : List α) : ∀ v ∈ rows f l, v.oneCell' = true := by
  intro v hv
  obtain ⟨a, _, hv⟩ := List.mem_flatMap.1 hv
  exact h a v hv
def rE (e : Ent) : List Value := U e.b
def rK (k : Ky) : List Value := U k.b
def rV (v : Value) : List Value := [v]
theorem rE_len (e : Ent) : (rE e).length = 80 := by rw [rE, U_length, e.len]
theorem rK_len (e : Ky) : (rK e).length = 40 := by rw [rK, U_length, e.len]
theorem rV_len (v : Value) : (rV v).length = 1 := rfl
theorem rE_one (e : Ent) : ∀ v ∈ rE e, v.oneCell' = true := U_one e.b
theorem rK_one (e : Ky) : ∀ v ∈ rK e, v.oneCell' = true := U_one e.b
theorem rows_V : ∀ (l : List Value), rows rV l = l
  | [] => rfl
  | x :: l => by rw [rows, List.flatMap_cons]; exact congrArg (x :: ·) (rows_V l)

/-! ### Places in rising rows -/
section
variable {α : Type} (g : α → Nat)
def Asc (l : List α) : Prop := l.Pairwise (fun a b => g a < g b)
/-- How many are below k. -/
def lo (l : List α) (k : Nat) : Nat := l.findIdx (fun x => decide (k ≤ g x))
variable {g}
theorem lo_le (l : List α) (k : Nat) : lo g l k ≤ l.length := List.findIdx_le_length
theorem lo_below {l : List α} {k j : Nat} (hl : j < l.length) (h : j < lo g l k) : g l[j] < k := by
  have := List.not_of_lt_findIdx h
  simpa using this
theorem lo_at {l : List α} {k : Nat} (h : lo g l k < l.length) : k ≤ g l[lo g l k] := by
  have := List.findIdx_getElem (w := h)
  exact of_decide_eq_true this
theorem Asc.lt {l : List α} (h : Asc g l) {i j : Nat} (hij : i < j) (hj : j < l.length) : g (l[i]'(by omega)) < g l[j] := List.pairwise_iff_getElem.1 h i j (by omega) hj hij
theorem lo_above {l : List α} (ha : Asc g l) {k j : Nat} (hl : j < l.length) (h : lo g l k ≤ j) : k ≤ g l[j] := by
  have h1 := lo_at (g := g) (l := l) (k := k) (by omega)
  rcases Nat.lt_or_eq_of_le h with h | h
  · have := ha.lt h hl; omega
  · simpa [h] using h1
/-- Where all below i are below k, and from i on none, i is the place. -/
theorem lo_is {l : List α} {k i : Nat} (hi : i ≤ l.length) (h1 : ∀ j (h : j < l.length), j < i → g l[j] < k) (h2 : ∀ h : i < l.length, k ≤ g l[i]) : i = lo g l k := by
  rcases Nat.lt_trichotomy i (lo g l k) with h | h | h
  · have hl : i < l.length := by have := lo_le (g := g) l k; omega
    have := lo_below hl h
    have := h2 hl
    omega
  · exact h
  · have hl : lo g l k < l.length := by omega
    have := lo_at (g := g) hl
    have := h1 _ hl h
    omega
end
end Go.Proofs.Ytpkhomfblilkhaa.E
