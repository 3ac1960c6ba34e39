/- Nodes: what they are, how they lie in memory, what the tree's are. -/
import Derived.Test.YtpkhomfblilkhaaF20
namespace Go.Proofs.Ytpkhomfblilkhaa.E
set_option linter.all false
open Go Go.RowKit

theorem Sl.val2 {e size n : Nat} {xs : List Value} {v : Value} {M : Mem} (h : Sl e size n xs v M) : ∃ a c, v = .slice a n c := by
  cases h with
  | nil hn hx => subst hn; exact ⟨_, _, rfl⟩
  | row g cap junk => exact ⟨_, _, rfl⟩
/-- A node: is it a leaf, its entries, keys, kids. -/
structure NodeV where
  leaf : Bool
  es : List Ent
  ks : List Ky
  kids : List Int
/-- A node in memory. -/
def RepN (n : NodeV) (p : Value) (M : Mem) : Prop := ∃ ve vk vi Me Mk Mi, p = .agg #[.bool n.leaf, ve, vk, vi] ∧ Sl 28 80 n.es.length (rows rE n.es) ve Me ∧ Sl 23 40 n.ks.length (rows rK n.ks) vk Mk ∧ Sl 3 1 n.kids.length (N n.kids) vi Mi ∧ M = Me ++ (Mk ++ Mi)
/-- The cells of values, one behind the other. -/
def flatV (ps : List Value) : List Value := ps.flatMap fun p => p.cells.toList
theorem flatV_append (a b : List Value) : flatV (a ++ b) = flatV a ++ flatV b := by simp [flatV]
theorem RepN.cells {n : NodeV} {p : Value} {M : Mem} (h : RepN n p M) : p.cells.toList.length = 4 := by
  obtain ⟨ve, vk, vi, Me, Mk, Mi, rfl, _⟩ := h; rfl
theorem RepN.ones {n : NodeV} {p : Value} {M : Mem} (h : RepN n p M) : ∀ u ∈ p.cells.toList, u.oneCell' = true := by
  obtain ⟨ve, vk, vi, Me, Mk, Mi, rfl, h1, h2, h3, _⟩ := h
  intro u hu
  have : u = .bool n.leaf ∨ u = ve ∨ u = vk ∨ u = vi := by simpa [Value.cells] using hu
  rcases this with rfl | rfl | rfl | rfl
  · rfl
  · exact h1.one
  · exact h2.one
  · exact h3.one
theorem flatV_len {ns : List NodeV} {ps : List Value} {M : Mem} (h : Reps RepN ns ps M) : (flatV ps).length = ns.length * 4 := by
  induction h with
  | nil => rfl
  | cons h1 _ ih => rw [flatV, List.flatMap_cons, List.length_append, h1.cells, List.length_cons]; unfold flatV at ih; rw [ih]; omega
theorem flatV_one {ns : List NodeV} {ps : List Value} {M : Mem} (h : Reps RepN ns ps M) : ∀ u ∈ flatV ps, u.oneCell' = true := by
  induction h with
  | nil => intro u hu; cases hu
  | cons h1 _ ih =>
    intro u hu
    rw [flatV, List.flatMap_cons, List.mem_append] at hu
    exact hu.elim (h1.ones u) (ih u)
/-- A row of nodes, reached by a pointer. -/
def NodesAt (b : Nat) (ns : List NodeV) (M : Mem) : Prop := ∃ v Mv ps MM, M = (b, 72, [v]) :: (Mv ++ MM) ∧ Sl 77 4 ns.length (flatV ps) v Mv ∧ Reps RepN ns ps MM
/-! ### What nodes makes of a tree -/
def nodesL {α : Type} (f : α → Nat → List NodeV) : List α → Nat → List NodeV × List Int
  | [], _ => ([], [])
  | u :: us, b => (f u b ++ (nodesL f us (b + (f u b).length)).1, ((b + (f u b).length : Nat) - 1 : Int) :: (nodesL f us (b + (f u b).length)).2)
def nodesT : (d : Nat) → Tr d → Nat → List NodeV
  | 0, es, _ => [⟨true, es, [], []⟩]
  | d + 1, t, b => (nodesL (nodesT d) t.2 b).1 ++ [⟨false, [], t.1, (nodesL (nodesT d) t.2 b).2⟩]
theorem nodesT_pos : ∀ (d : Nat) (t : Tr d) (b : Nat), 0 < (nodesT d t b).length
  | 0, _, _ => Nat.one_pos
  | d + 1, t, b => by rw [nodesT, List.length_append, List.length_singleton]; omega
theorem nodesL_snoc {α : Type} (f : α → Nat → List NodeV) : ∀ (us : List α) (u : α) (b : Nat), nodesL f (us ++ [u]) b = ((nodesL f us b).1 ++ f u (b + (nodesL f us b).1.length), (nodesL f us b).2 ++ [((b + (nodesL f us b).1.length + (f u (b + (nodesL f us b).1.length)).length : Nat) - 1 : Int)])
  | [], u, b => by simp [nodesL]
  | v :: us, u, b => by
    rw [List.cons_append, nodesL, nodesL_snoc f us u]
    simp only [nodesL, List.append_assoc, List.cons_append, List.length_append, Nat.add_assoc]
theorem nodesL_kids {α : Type} (f : α → Nat → List NodeV) : ∀ (us : List α) (b : Nat), (nodesL f us b).2.length = us.length
  | [], _ => rfl
  | u :: us, b => by rw [nodesL, List.length_cons, nodesL_kids f us, List.length_cons]
instance : TySz Try.prog 77 4 := ⟨by kernel_rfl⟩
instance : TyRow Try.prog 77 := ⟨by kernel_rfl⟩
instance : TyEl Try.prog 77 4 80 := ⟨by kernel_rfl, by decide⟩
instance : TySz Try.prog 72 1 := ⟨by kernel_rfl⟩
instance : TyOne Try.prog 72 := ⟨by kernel_rfl⟩
instance : TySl Try.prog 72 77 := ⟨Try.underlying72⟩
instance : TySz Try.prog 64 1 := ⟨by kernel_rfl⟩
instance : TyOne Try.prog 64 := ⟨by kernel_rfl⟩
instance : TySl Try.prog 64 3 := ⟨Try.underlying64⟩
instance : TyZ Try.prog 77 ([.bool false, .slice none 0 0, .slice none 0 0, .slice none 0 0]) := ⟨by kernel_rfl⟩
instance : TyZ Try.prog 72 ([.slice none 0 0]) := ⟨by kernel_rfl⟩
instance {a : Option Addr} {n c : Nat} : Bld Try.prog 77 [(0, .bool true), (1, .slice a n c)] [.bool true, .slice a n c, .slice none 0 0, .slice none 0 0] := ⟨fun w => run_build w 77 _ _ (by kernel_rfl)⟩
instance {a b c d : Value} : BSl Try.prog 72 1 [(0, .agg #[a, b, c, d])] 77 [a, b, c, d] :=
  ⟨fun w => by have := bsl_dense (P := Try.prog) (T := 72) (e := 77) (size := 4) (bytes := 80) [.agg #[a, b, c, d]] (by simp [Value.cells]) (by simp) (by simp) w; simpa [Value.cells] using this⟩
end Go.Proofs.Ytpkhomfblilkhaa.E
