/- Bytes in rows of cells; keys and entries; what the types are. -/
import Derived.Test.YtpkhomfblilkhaaRows
import Derived.Test.YtpkhomfblilkhaaK4
import Derived.Deep.QuietTactic
import Derived.BigQuiet
import Derived.Lib.BytesEntry
namespace Go.Proofs.Ytpkhomfblilkhaa.E
set_option linter.all false
open Go Go.RowKit

def U (l : List Int) : List Value := l.map (Value.int .u8)
def N (l : List Int) : List Value := l.map (Value.int .i64)
@[simp] theorem U_length (l : List Int) : (U l).length = l.length := by simp [U]
@[simp] theorem N_length (l : List Int) : (N l).length = l.length := by simp [N]
theorem U_one (l : List Int) : ∀ v ∈ U l, v.oneCell' = true := by simp [U, Value.oneCell']
theorem N_one (l : List Int) : ∀ v ∈ N l, v.oneCell' = true := by simp [N, Value.oneCell']
theorem U_append (a b : List Int) : U (a ++ b) = U a ++ U b := by simp [U]
theorem U_cons (a : Int) (b : List Int) : U (a :: b) = .int .u8 a :: U b := rfl
theorem splice_map {α β : Type} (f : α → β) (l : List α) (off : Nat) (cs : List α) : splice (l.map f) off (cs.map f) = (splice l off cs).map f := by
  simp [splice, List.map_take, List.map_drop]
theorem U_splice (l : List Int) (off : Nat) (cs : List Int) : splice (U l) off (U cs) = U (splice l off cs) := splice_map _ _ _ _
theorem U_part (l : List Int) (off n : Nat) : ((U l).drop off).take n = U ((l.drop off).take n) := by simp [U, List.map_take, List.map_drop]
theorem U_at (l : List Int) (i : Nat) : (U l)[i]? = l[i]?.map (Value.int .u8) := by simp [U]
theorem U_zip (l : List Int) : List.zipWith Value.int (List.replicate l.length .u8) l = U l := by
  induction l with
  | nil => rfl
  | cons x l ih => simp [List.replicate_succ, U, ih]
theorem N_zip (l : List Int) : List.zipWith Value.int (List.replicate l.length .i64) l = N l := by
  induction l with
  | nil => rfl
  | cons x l ih => simp [List.replicate_succ, N, ih]

theorem part_at {α : Type} {L pre mid post : List α} {off n : Nat} (h : L = pre ++ (mid ++ post)) (ho : pre.length = off) (hm : mid.length = n) : (L.drop off).take n = mid := by
  subst h ho hm; simp
theorem elem_at {α : Type} {L pre post : List α} {x : α} {off : Nat} (h : L = pre ++ x :: post) (ho : pre.length = off) : L[off]? = some x := by
  subst h ho; simp
theorem splice_all {α : Type} {l cs : List α} (h : l.length = cs.length) : splice l 0 cs = cs := by
  simp [splice, ← h]
theorem U_set (l : List Int) (i : Nat) (v : Int) : (U l).set i (.int .u8 v) = U (l.set i v) := by simp [U, List.map_set]
theorem splice_nil {α : Type} (l : List α) (off : Nat) : splice l off [] = l := by simp [splice]
theorem splice_succ {α : Type} (l c : List α) (off k : Nat) (v : α) (hv : c[k]? = some v) (hf : off + c.length ≤ l.length) : (splice l off (c.take k)).set (off + k) v = splice l off (c.take (k + 1)) := by
  have hk : k < c.length := (List.getElem?_eq_some_iff.1 hv).1
  have hl1 : (c.take k).length = k := by simp; omega
  have hl2 : (c.take (k + 1)).length = k + 1 := by simp; omega
  obtain ⟨x, hx⟩ : ∃ x, l[off + k]? = some x := ⟨_, List.getElem?_eq_getElem (by omega)⟩
  have e : l.drop (off + k) = x :: l.drop (off + (k + 1)) := by
    have h := List.getElem?_eq_some_iff.1 hx
    rw [List.drop_eq_getElem_cons h.1, h.2]; rfl
  unfold splice
  rw [hl1, hl2, e]
  have hz : (l.take off ++ c.take k).length = off + k := by simp; omega
  rw [← List.append_assoc, set_at rfl hz, List.take_add_one, hv]
  simp
/-! ### Bytes -/
def IsB (x : Int) : Prop := 0 ≤ x ∧ x < 256
def AllB (l : List Int) : Prop := ∀ x ∈ l, IsB x
theorem isB_mod (n : Int) : IsB (n % 256) := ⟨by omega, by omega⟩
theorem allB_Z (n : Nat) : AllB (List.replicate n 0) := fun x hx => by rw [List.eq_of_mem_replicate hx]; exact ⟨by omega, by omega⟩
theorem allB_app {a b : List Int} (h1 : AllB a) (h2 : AllB b) : AllB (a ++ b) := fun x hx => (List.mem_append.1 hx).elim (h1 x) (h2 x)
theorem allB_of {l : List Int} (h : l.all (fun x => decide (0 ≤ x) && decide (x < 256)) = true) : AllB l := fun x hx => by
  have := List.all_eq_true.1 h x hx
  simp only [Bool.and_eq_true, decide_eq_true_eq] at this
  exact this
theorem set_b {l : List Int} (h : AllB l) {k : Nat} {z : Int} (hz : IsB z) : AllB (l.set k z) := fun x hx => by
  rcases List.mem_or_eq_of_mem_set hx with hx | rfl
  · exact h x hx
  · exact hz
def sub (l : List Int) (off n : Nat) : List Int := (l.drop off).take n
theorem sub_length {l : List Int} {off n N : Nat} (h : l.length = N) (hf : off + n ≤ N) : (sub l off n).length = n := by simp [sub, h]; omega
theorem sub_b {l : List Int} (h : AllB l) (off n : Nat) : AllB (sub l off n) := fun x hx => h x (List.mem_of_mem_drop (List.mem_of_mem_take hx))
theorem U_sub {l : List Int} {off n : Nat} (h : off + n ≤ l.length) : Part (U l) off n (U (sub l off n)) := ⟨U_part l off n, by simpa using h⟩
def Z (n : Nat) : List Int := List.replicate n 0
@[simp] theorem Z_length (n : Nat) : (Z n).length = n := by simp [Z]
class Ln (l : List Int) (n : outParam Nat) : Prop where out : l.length = n
instance {n} : Ln (Z n) n := ⟨Z_length n⟩
instance {x l n} [h : Ln l n] : Ln (x :: l) (n + 1) := ⟨by simp [h.out]⟩
theorem U_whole {l : List Int} {n : Nat} (h : l.length = n) : ((U l).drop 0).take n = U l := by rw [List.drop_zero, List.take_of_length_le (by simp [h])]
instance {l n} [h : Ln l n] : Part (U l) 0 n (U l) := ⟨U_whole h.out, by simp [h.out]⟩
instance {l} : Ones (U l) := ⟨U_one l⟩
instance {l} : Ones (N l) := ⟨N_one l⟩
theorem U_over {l m : List Int} {n : Nat} (h : l.length = n) (k : m.length = n) : splice (U l) 0 (U m) = U m := splice_all (by simp [h, k])
instance {l m n} [h : Ln l n] [k : Ln m n] : Spl (U l) 0 n (U m) (U m) := ⟨U_over h.out k.out, by simp [h.out], by simp [k.out]⟩
theorem U_inj : ∀ {a b : List Int}, U a = U b → a = b
  | [], [], _ => rfl
  | [], _ :: _, h => by simp [U] at h
  | _ :: _, [], h => by simp [U] at h
  | x :: a, y :: b, h => by
    simp only [U, List.map_cons, List.cons.injEq, Value.int.injEq, true_and] at h
    rw [h.1, U_inj (a := a) (b := b) h.2]

/-! ### An entry: 80 bytes, the key ahead -/
structure Ent where
  b : List Int
  len : b.length = 80
  isb : AllB b
def Ent.key (e : Ent) : List Int := sub e.b 0 40
def Ent.val (e : Ent) : List Int := sub e.b 40 40
theorem Ent.ext' {e f : Ent} (h : e.b = f.b) : e = f := by cases e; cases f; cases h; rfl
theorem Ent.key_length (e : Ent) : e.key.length = 40 := sub_length e.len (by omega)
theorem Ent.val_length (e : Ent) : e.val.length = 40 := sub_length e.len (by omega)
theorem Ent.key_b (e : Ent) : AllB e.key := sub_b e.isb 0 40
/-- A key: 40 bytes. -/
structure Ky where
  b : List Int
  len : b.length = 40
  isb : AllB b
theorem Ky.ext' {e f : Ky} (h : e.b = f.b) : e = f := by cases e; cases f; cases h; rfl
def Ent.ky (e : Ent) : Ky := ⟨e.key, e.key_length, e.key_b⟩
instance : DecidableEq Ent := fun a b => if h : a.b = b.b then .isTrue (Ent.ext' h) else .isFalse fun e => h (by rw [e])
instance : DecidableEq Ky := fun a b => if h : a.b = b.b then .isTrue (Ky.ext' h) else .isFalse fun e => h (by rw [e])
instance {e : Ent} : Ln e.b 80 := ⟨e.len⟩
instance {e : Ky} : Ln e.b 40 := ⟨e.len⟩
instance {e : Ent} : Part (U e.b) 0 40 (U e.ky.b) := U_sub (by have := e.len; omega)
instance {e : Ent} : Part (U e.b) 40 40 (U e.val) := U_sub (by have := e.len; omega)
def Ent.zero : Ent := ⟨Z 80, Z_length 80, allB_Z 80⟩
def Ky.zero : Ky := ⟨Z 40, Z_length 40, allB_Z 40⟩

/-! ### Types -/
instance : TySz Try.prog 3 1 := ⟨by kernel_rfl⟩
instance : TyOne Try.prog 3 := ⟨by kernel_rfl⟩
instance : TySz Try.prog 4 1 := ⟨by kernel_rfl⟩
instance : TyOne Try.prog 4 := ⟨by kernel_rfl⟩
instance : TySz Try.prog 5 1 := ⟨by kernel_rfl⟩
instance : TyOne Try.prog 5 := ⟨by kernel_rfl⟩
instance : TySz Try.prog 75 1 := ⟨by kernel_rfl⟩
instance : TyOne Try.prog 75 := ⟨by kernel_rfl⟩
instance : TySz Try.prog 40 1 := ⟨by kernel_rfl⟩
instance : TyOne Try.prog 40 := ⟨by kernel_rfl⟩
instance : TySz Try.prog 104 1 := ⟨by kernel_rfl⟩
instance : TyOne Try.prog 104 := ⟨by kernel_rfl⟩
instance : TySz Try.prog 35 1 := ⟨by kernel_rfl⟩
instance : TyOne Try.prog 35 := ⟨by kernel_rfl⟩
instance : TySz Try.prog 109 1 := ⟨by kernel_rfl⟩
instance : TyOne Try.prog 109 := ⟨by kernel_rfl⟩
instance : TySz Try.prog 103 1 := ⟨by kernel_rfl⟩
instance : TyOne Try.prog 103 := ⟨by kernel_rfl⟩
instance : TySz Try.prog 37 1 := ⟨by kernel_rfl⟩
instance : TyOne Try.prog 37 := ⟨by kernel_rfl⟩
instance : TySz Try.prog 97 1 := ⟨by kernel_rfl⟩
instance : TyOne Try.prog 97 := ⟨by kernel_rfl⟩
instance : TySz Try.prog 22 40 := ⟨by kernel_rfl⟩
instance : TyRow Try.prog 22 := ⟨by kernel_rfl⟩
instance : TySz Try.prog 23 40 := ⟨by kernel_rfl⟩
instance : TyRow Try.prog 23 := ⟨by kernel_rfl⟩
instance : TySz Try.prog 26 40 := ⟨by kernel_rfl⟩
instance : TyRow Try.prog 26 := ⟨by kernel_rfl⟩
instance : TySz Try.prog 28 80 := ⟨by kernel_rfl⟩
instance : TyRow Try.prog 28 := ⟨by kernel_rfl⟩
instance : TySz Try.prog 111 1 := ⟨by kernel_rfl⟩
instance : TyRow Try.prog 111 := ⟨by kernel_rfl⟩
instance : TySz Try.prog 106 2 := ⟨by kernel_rfl⟩
instance : TyRow Try.prog 106 := ⟨by kernel_rfl⟩
instance : TySz Try.prog 39 2 := ⟨by kernel_rfl⟩
instance : TyRow Try.prog 39 := ⟨by kernel_rfl⟩
instance : TyArr Try.prog 22 40 5 := ⟨Try.underlying22⟩
instance : TyArr Try.prog 23 40 5 := ⟨Try.underlying23⟩
instance : TyArr Try.prog 26 40 5 := ⟨Try.underlying26⟩
instance : TySl Try.prog 75 23 := ⟨Try.underlying75⟩
instance : TySl Try.prog 40 28 := ⟨Try.underlying40⟩
instance : TySl Try.prog 104 37 := ⟨Try.underlying104⟩
instance : TySl Try.prog 97 5 := ⟨Try.underlying97⟩
instance : TyEl Try.prog 23 40 40 := ⟨by kernel_rfl, by decide⟩
instance : TyEl Try.prog 28 80 80 := ⟨by kernel_rfl, by decide⟩
instance : TyEl Try.prog 37 1 16 := ⟨by kernel_rfl, by decide⟩
instance : TyEl Try.prog 5 1 1 := ⟨by kernel_rfl, by decide⟩
instance : TyEl Try.prog 3 1 8 := ⟨by kernel_rfl, by decide⟩
instance : TyZ Try.prog 23 (U (Z 40)) := ⟨by kernel_rfl⟩
instance : TyZ Try.prog 26 (U (Z 40)) := ⟨by kernel_rfl⟩
instance : TyZ Try.prog 28 (U (Z 80)) := ⟨by kernel_rfl⟩
instance : TyZ Try.prog 3 ([.int .i64 0]) := ⟨by kernel_rfl⟩
instance : TyZ Try.prog 4 ([.bool false]) := ⟨by kernel_rfl⟩
instance : TyZ Try.prog 40 ([.slice none 0 0]) := ⟨by kernel_rfl⟩
instance : TyZ Try.prog 75 ([.slice none 0 0]) := ⟨by kernel_rfl⟩
instance : TyZ Try.prog 104 ([.slice none 0 0]) := ⟨by kernel_rfl⟩
instance : TyZ Try.prog 37 ([.nilIface]) := ⟨by kernel_rfl⟩
instance : TyZ Try.prog 111 ([.slice none 0 0]) := ⟨by kernel_rfl⟩
instance : TyZ Try.prog 106 ([.slice none 0 0, .slice none 0 0]) := ⟨by kernel_rfl⟩
instance : TyZ Try.prog 39 ([.nilIface, .int .i64 0]) := ⟨by kernel_rfl⟩
instance : Bld Try.prog 28 [] (U (Z 80)) := ⟨fun w => run_build w 28 _ _ (by kernel_rfl)⟩
instance : Bld Try.prog 23 [] (U (Z 40)) := ⟨fun w => run_build w 23 _ _ (by kernel_rfl)⟩
instance {k} : Bld Try.prog 23 [(0, .int .u8 k)] (U (k :: Z 39)) := ⟨fun w => run_build w 23 _ _ (by kernel_rfl)⟩
theorem k_entry : flatKinds Try.prog 4 28 = some (List.replicate 80 .u8) := by kernel_rfl
theorem k_key : flatKinds Try.prog 4 23 = some (List.replicate 40 .u8) := by kernel_rfl
theorem U_zipn {l : List Int} {n : Nat} (h : l.length = n) : List.zipWith Value.int (List.replicate n .u8) l = U l := by subst h; exact U_zip l
theorem eql_entry (e f : Ent) (w : World) : (binOp .eql 28 (.agg (U e.b).toArray) (.agg (U f.b).toArray)).run Try.prog w = .ok (.bool (e.b == f.b)) w := by
  rw [← U_zipn e.len, ← U_zipn f.len]; exact run_eql_flat (by decide) k_entry (by rw [Try.underlying28]; rfl) _ _ (by simp [e.len]) (by simp [f.len]) w
theorem neq_entry (e f : Ent) (w : World) : (binOp .neq 28 (.agg (U e.b).toArray) (.agg (U f.b).toArray)).run Try.prog w = .ok (.bool (!(e.b == f.b))) w := by
  rw [← U_zipn e.len, ← U_zipn f.len]; exact run_neq_flat (by decide) k_entry (by rw [Try.underlying28]; rfl) _ _ (by simp [e.len]) (by simp [f.len]) w
theorem eql_key (e f : Ky) (w : World) : (binOp .eql 23 (.agg (U e.b).toArray) (.agg (U f.b).toArray)).run Try.prog w = .ok (.bool (e.b == f.b)) w := by
  rw [← U_zipn e.len, ← U_zipn f.len]; exact run_eql_flat (by decide) k_key (by rw [Try.underlying23]; rfl) _ _ (by simp [e.len]) (by simp [f.len]) w
theorem neq_key (e f : Ky) (w : World) : (binOp .neq 23 (.agg (U e.b).toArray) (.agg (U f.b).toArray)).run Try.prog w = .ok (.bool (!(e.b == f.b))) w := by
  rw [← U_zipn e.len, ← U_zipn f.len]; exact run_neq_flat (by decide) k_key (by rw [Try.underlying23]; rfl) _ _ (by simp [e.len]) (by simp [f.len]) w
instance {e f : Ent} : Cmp Try.prog .eql 28 (U e.b) (U f.b) (e.b == f.b) := ⟨eql_entry e f⟩
instance {e f : Ent} : Cmp Try.prog .neq 28 (U e.b) (U f.b) (!(e.b == f.b)) := ⟨neq_entry e f⟩
instance {e f : Ky} : Cmp Try.prog .eql 23 (U e.b) (U f.b) (e.b == f.b) := ⟨eql_key e f⟩
instance {e f : Ky} : Cmp Try.prog .neq 23 (U e.b) (U f.b) (!(e.b == f.b)) := ⟨neq_key e f⟩
instance : NoIf Try.prog 28 := ⟨by kernel_rfl⟩
instance : NoIf Try.prog 23 := ⟨by kernel_rfl⟩
end Go.Proofs.Ytpkhomfblilkhaa.E
