/- A struct built of parts that are rows. -/
import Derived.Test.YtpkhomfblilkhaaF14
namespace Go.Proofs.Ytpkhomfblilkhaa.E
set_option linter.all false
open Go Go.RowKit

theorem fold_splice : ∀ (vs : List Value) (cells : List Value) (off j : Nat), off + j + vs.length ≤ cells.length →
    ((vs.zipIdx j).foldl (fun cs x => cs.setIfInBounds (off + x.2) x.1) cells.toArray) = (splice cells (off + j) vs).toArray
  | [], cells, off, j, _ => by simp [splice]
  | v :: vs, cells, off, j, h => by
    simp only [List.length_cons] at h
    have hl : off + j < cells.length := by omega
    rw [List.zipIdx_cons, List.foldl_cons, List.setIfInBounds_toArray, fold_splice vs (cells.set (off + j) v) off (j + 1) (by rw [List.length_set]; omega)]
    congr 1
    have e : cells = cells.take (off + j) ++ (cells[off + j] :: cells.drop (off + j + 1)) := by rw [← List.drop_eq_getElem_cons hl, List.take_append_drop]
    have hl1 : (cells.take (off + j)).length = off + j := by rw [List.length_take]; omega
    have e2 : cells.set (off + j) v = (cells.take (off + j) ++ [v]) ++ (cells.drop (off + j + 1)) := by
      conv => lhs; rw [e]
      rw [set_at rfl hl1]; simp
    rw [e2]
    have e3 : splice ((cells.take (off + j) ++ [v]) ++ cells.drop (off + j + 1)) (off + (j + 1)) vs = (cells.take (off + j) ++ [v]) ++ (vs ++ (cells.drop (off + j + 1)).drop vs.length) :=
      splice_at (mid := (cells.drop (off + j + 1)).take vs.length) (by rw [List.take_append_drop]) (by rw [List.length_append, hl1]; rfl) (by rw [List.length_take, List.length_drop]; omega)
    rw [e3, splice, List.drop_drop]
    simp only [List.append_assoc, List.cons_append, List.nil_append, List.length_cons]
    rw [show off + j + 1 + vs.length = off + j + (vs.length + 1) by omega]
theorem fill_step {place : Nat → Option (Nat × Nat)} {cells cs : List Value} {i off size : Nat} {v : Value} {rest : List (Nat × Value)} (hp : place i = some (off, size)) (hc : v.cells.toList = cs) (hs : cs.length = size) (hf : off + size ≤ cells.length) :
    Instr.fill place cells.toArray ((i, v) :: rest) = Instr.fill place (splice cells off cs).toArray rest := by
  subst hc
  have h1 : v.cells.size = size := by rw [← hs, Array.length_toList]
  rw [Instr.fill, hp]
  simp only [h1, bne_self_eq_false, Bool.false_or, List.size_toArray]
  rw [if_neg (by simp; omega)]
  congr 1
  have := fold_splice v.cells.toList cells off 0 (by rw [hs]; omega)
  rw [Nat.add_zero] at this
  rw [← this, ← Array.foldl_toList, Array.toList_zipIdx]
/-- A cursor's cells. -/
def curRow (v : Value) (f g : Ky) (b : Bool) : List Value := v :: (U f.b ++ (U g.b ++ [Value.bool b]))
theorem built_cur (parts : List (Nat × Value)) : Try.prog.built 33 parts = Instr.fill (fun i => (#[(0, 1), (1, 40), (41, 40), (81, 1)] : Array (Nat × Nat))[i]?) (Value.nilFunc :: (U (Z 40) ++ (U (Z 40) ++ [Value.bool false]))).toArray parts := by kernel_rfl
instance {v : Value} [h : Size1 v] {f g : Ky} {b : Bool} : Bld Try.prog 33 [(0, v), (1, .agg (U f.b).toArray), (2, .agg (U g.b).toArray), (3, .bool b)] (curRow v f g b) := ⟨fun w => by
  refine run_build w 33 _ _ ?_
  rw [List.toList_toArray, built_cur]
  have lz : (U (Z 40)).length = 40 := by simp
  have lf : (U f.b).length = 40 := by rw [U_length, f.len]
  have lg : (U g.b).length = 40 := by rw [U_length, g.len]
  rw [fill_step (off := 0) (size := 1) (cs := [v]) rfl (by rw [h.out]) rfl (by simp)]
  rw [show splice (Value.nilFunc :: (U (Z 40) ++ (U (Z 40) ++ [Value.bool false]))) 0 [v] = v :: (U (Z 40) ++ (U (Z 40) ++ [Value.bool false])) from rfl]
  rw [fill_step (off := 1) (size := 40) (cs := U f.b) rfl rfl lf (by simp)]
  rw [splice_at (off := 1) (cs := U f.b) (L := v :: (U (Z 40) ++ (U (Z 40) ++ [Value.bool false]))) (pre := [v]) (mid := U (Z 40)) (post := U (Z 40) ++ [Value.bool false]) rfl rfl (by rw [lz, lf])]
  rw [fill_step (off := 41) (size := 40) (cs := U g.b) rfl rfl lg (by simp [f.len])]
  rw [splice_at (off := 41) (cs := U g.b) (L := [v] ++ (U f.b ++ (U (Z 40) ++ [Value.bool false]))) (pre := [v] ++ U f.b) (mid := U (Z 40)) (post := [Value.bool false]) (by simp) (by simp [f.len]) (by rw [lz, lg])]
  rw [fill_step (off := 81) (size := 1) (cs := [Value.bool b]) rfl rfl rfl (by simp [f.len, g.len])]
  rw [splice_at (off := 81) (cs := [Value.bool b]) (L := [v] ++ U f.b ++ (U g.b ++ [Value.bool false])) (pre := [v] ++ U f.b ++ U g.b) (mid := [Value.bool false]) (post := []) (by simp) (by simp [f.len, g.len]) rfl]
  rw [Instr.fill]
  simp [curRow]⟩
end Go.Proofs.Ytpkhomfblilkhaa.E
