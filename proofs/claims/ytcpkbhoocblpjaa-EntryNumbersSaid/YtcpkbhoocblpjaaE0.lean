/- The entries' plain words: items and entries as rows of cells; what the types are. -/
import Derived.Test.YtcpkbhoocblpjaaRows
import Derived.Test.YtcpkbhoocblpjaaK3
namespace Go.Proofs.Ytcpkbhoocblpjaa.E
set_option linter.all false
open Go Go.RowKit

def U (l : List Int) : List Value := l.map (Value.int .u8)
def N (l : List Int) : List Value := l.map (Value.int .i64)
@[simp] theorem U_length (l : List Int) : (U l).length = l.length := by simp [U]
@[simp] theorem N_length (l : List Int) : (N l).length = l.length := by simp [N]
theorem U_one (l : List Int) : ∀ v ∈ U l, v.oneCell' = true := by simp [U, Value.oneCell']
theorem N_one (l : List Int) : ∀ v ∈ N l, v.oneCell' = true := by simp [N, Value.oneCell']
theorem U_append (a b : List Int) : U (a ++ b) = U a ++ U b := by simp [U]
theorem U_cons (a : Int) (b : List Int) : U (a :: b) = .int .u8 a :: U b := rfl
theorem splice_map {α β : Type} (f : α → β) (l : List α) (off : Nat) (cs : List α) : splice (l.map f) off (cs.map f) = (splice l off cs).map f := by
  simp [splice, List.map_take, List.map_drop]
theorem U_splice (l : List Int) (off : Nat) (cs : List Int) : splice (U l) off (U cs) = U (splice l off cs) := splice_map _ _ _ _
theorem U_part (l : List Int) (off n : Nat) : ((U l).drop off).take n = U ((l.drop off).take n) := by simp [U, List.map_take, List.map_drop]
theorem U_at (l : List Int) (i : Nat) : (U l)[i]? = l[i]?.map (Value.int .u8) := by simp [U]
theorem U_zip (l : List Int) : List.zipWith Value.int (List.replicate l.length .u8) l = U l := by
  induction l with
  | nil => rfl
  | cons x l ih => simp [List.replicate_succ, U, ih]
theorem N_zip (l : List Int) : List.zipWith Value.int (List.replicate l.length .i64) l = N l := by
  induction l with
  | nil => rfl
  | cons x l ih => simp [List.replicate_succ, N, ih]

/-- An item. -/
@[ext] structure It where
  kind : Int
  key : List Int
  at_ : Int
  sec : Int
  un : Int
  refs : Int
  snap : Int
  unit : Int
  sk : List Int
  off : Int
  mask : Int
  hk : key.length = 32
  hs : sk.length = 32
namespace It
def pl (i : It) : List Value := [.int .i64 i.at_, .int .i64 i.sec, .int .i64 i.un, .int .i64 i.refs]
def sl (i : It) : List Value := U i.sk ++ [.int .i64 i.off, .int .i64 i.mask]
def row (i : It) : List Value := .int .u8 i.kind :: (U i.key ++ (i.pl ++ (.int .i64 i.snap :: .int .i64 i.unit :: i.sl)))
def ints (i : It) : List Int := i.kind :: (i.key ++ ([i.at_, i.sec, i.un, i.refs] ++ (i.snap :: i.unit :: (i.sk ++ [i.off, i.mask]))))
def kinds : List IntKind := List.replicate 33 .u8 ++ List.replicate 6 .i64 ++ List.replicate 32 .u8 ++ [.i64, .i64]
@[simp] theorem sl_length (i : It) : i.sl.length = 34 := by simp [sl, i.hs]
@[simp] theorem pl_length (i : It) : i.pl.length = 4 := rfl
@[simp] theorem row_length (i : It) : i.row.length = 73 := by simp [row, i.hk]
@[simp] theorem ints_length (i : It) : i.ints.length = 73 := by simp [ints, i.hk, i.hs]
theorem zip_append {a b : List IntKind} {x y : List Int} (h : a.length = x.length) : List.zipWith Value.int (a ++ b) (x ++ y) = List.zipWith Value.int a x ++ List.zipWith Value.int b y := List.zipWith_append h
theorem zip_u {n : Nat} {x : List Int} (h : x.length = n) : List.zipWith Value.int (List.replicate n .u8) x = U x := by rw [← h]; exact U_zip x
theorem row_zip (i : It) : List.zipWith Value.int kinds i.ints = i.row := by
  have e : kinds = .u8 :: (List.replicate 32 .u8 ++ (List.replicate 4 .i64 ++ (.i64 :: .i64 :: (List.replicate 32 .u8 ++ [.i64, .i64])))) := by decide
  rw [e]
  unfold ints row pl sl
  rw [List.zipWith_cons_cons, zip_append (by simp [i.hk]), zip_append (by simp), List.zipWith_cons_cons, List.zipWith_cons_cons, zip_append (by simp [i.hs]), zip_u i.hk, zip_u i.hs]
  rfl
theorem one (i : It) : ∀ v ∈ i.row, v.oneCell' = true := by
  rw [← row_zip]
  intro v hv
  obtain ⟨j, hj, e⟩ := List.getElem_of_mem hv
  subst e
  simp [Value.oneCell']
theorem pl_one (i : It) : ∀ v ∈ i.pl, v.oneCell' = true := by simp [pl, Value.oneCell']
theorem sl_one (i : It) : ∀ v ∈ i.sl, v.oneCell' = true := by
  simp only [sl, List.mem_append]
  rintro v (h | h)
  · exact U_one _ v h
  · revert v; simp [Value.oneCell']
theorem ints_inj {i j : It} : i.ints = j.ints ↔ i = j := by
  constructor
  · intro h
    simp only [ints, List.cons.injEq] at h
    obtain ⟨h0, h⟩ := h
    obtain ⟨h1, h⟩ := List.append_inj h (by rw [i.hk, j.hk])
    simp only [List.cons_append, List.nil_append, List.cons.injEq] at h
    obtain ⟨h2, h3, h4, h5, h6, h7, h⟩ := h
    obtain ⟨h8, h⟩ := List.append_inj h (by rw [i.hs, j.hs])
    simp only [List.cons.injEq, and_true] at h
    exact It.ext h0 h1 h2 h3 h4 h5 h6 h7 h8 h.1 h.2
  · rintro rfl; rfl
instance : DecidableEq It := fun i j => if h : i.ints = j.ints then .isTrue (ints_inj.1 h) else .isFalse (fun e => h (ints_inj.2 e))

/- reading -/
theorem at_kind (i : It) : i.row[0]? = some (.int .u8 i.kind) := rfl
theorem row_split1 (i : It) : i.row = [.int .u8 i.kind] ++ (U i.key ++ (i.pl ++ (.int .i64 i.snap :: .int .i64 i.unit :: i.sl))) := rfl
theorem row_split2 (i : It) : i.row = (.int .u8 i.kind :: U i.key) ++ (i.pl ++ (.int .i64 i.snap :: .int .i64 i.unit :: i.sl)) := by simp [row]
theorem row_split3 (i : It) : i.row = (.int .u8 i.kind :: (U i.key ++ i.pl)) ++ (.int .i64 i.snap :: .int .i64 i.unit :: i.sl) := by simp [row]
theorem row_split3' (i : It) : i.row = (.int .u8 i.kind :: (U i.key ++ i.pl ++ [.int .i64 i.snap])) ++ (.int .i64 i.unit :: i.sl) := by simp [row]
theorem row_split4 (i : It) : i.row = (.int .u8 i.kind :: (U i.key ++ i.pl ++ [.int .i64 i.snap, .int .i64 i.unit])) ++ (i.sl ++ []) := by simp [row]
theorem part_at {α : Type} {L pre mid post : List α} {off n : Nat} (h : L = pre ++ (mid ++ post)) (ho : pre.length = off) (hm : mid.length = n) : (L.drop off).take n = mid := by
  subst h ho hm; simp
theorem elem_at {α : Type} {L pre post : List α} {x : α} {off : Nat} (h : L = pre ++ x :: post) (ho : pre.length = off) : L[off]? = some x := by
  subst h ho; simp
theorem part_key (i : It) : (i.row.drop 1).take 32 = U i.key := part_at i.row_split1 rfl (by simp [i.hk])
theorem part_pl (i : It) : (i.row.drop 33).take 4 = i.pl := part_at i.row_split2 (by simp [i.hk]) rfl
theorem at_snap (i : It) : i.row[37]? = some (.int .i64 i.snap) := elem_at i.row_split3 (by simp [i.hk])
theorem at_unit (i : It) : i.row[38]? = some (.int .i64 i.unit) := elem_at i.row_split3' (by simp [i.hk])
theorem part_sl (i : It) : (i.row.drop 39).take 34 = i.sl := part_at i.row_split4 (by simp [i.hk]) (by simp)
theorem part_all (i : It) : (i.row.drop 0).take 73 = i.row := by rw [List.drop_zero, List.take_of_length_le (by simp)]
theorem at_key (i : It) {j : Nat} (hj : j < 32) : i.row[1 + j]? = some (.int .u8 (i.key[j]?.getD 0)) := by
  have := congrArg (·[j]?) i.part_key
  simp only [List.getElem?_take, hj, if_true, List.getElem?_drop] at this
  rw [this, U_at, List.getElem?_eq_getElem (by rw [i.hk]; exact hj)]
  rfl
theorem at_pl (i : It) {j : Nat} (hj : j < 4) : i.row[33 + j]? = i.pl[j]? := by
  have := congrArg (·[j]?) i.part_pl
  simpa only [List.getElem?_take, hj, if_true, List.getElem?_drop] using this
theorem at_sl (i : It) {j : Nat} (hj : j < 34) : i.row[39 + j]? = i.sl[j]? := by
  have := congrArg (·[j]?) i.part_sl
  simpa only [List.getElem?_take, hj, if_true, List.getElem?_drop] using this
theorem sl_sk (i : It) {j : Nat} (hj : j < 32) : i.sl[j]? = some (.int .u8 (i.sk[j]?.getD 0)) := by
  rw [sl, List.getElem?_append_left (by simp [i.hs]; exact hj), U_at, List.getElem?_eq_getElem (by rw [i.hs]; exact hj)]
  rfl
theorem sl_off (i : It) : i.sl[32]? = some (.int .i64 i.off) := elem_at (pre := U i.sk) rfl (by simp [i.hs])
theorem sl_mask (i : It) : i.sl[33]? = some (.int .i64 i.mask) := elem_at (pre := U i.sk ++ [.int .i64 i.off]) (post := []) (by simp [sl]) (by simp [i.hs])
theorem sl_key (i : It) : (i.sl.drop 0).take 32 = U i.sk := part_at (pre := []) (mid := U i.sk) (post := [.int .i64 i.off, .int .i64 i.mask]) rfl rfl (by simp [i.hs])
theorem sl_all (i : It) : (i.sl.drop 0).take 34 = i.sl := by rw [List.drop_zero, List.take_of_length_le (by simp)]
theorem at_at (i : It) : i.row[33]? = some (.int .i64 i.at_) := i.at_pl (j := 0) (by omega)
theorem at_sec (i : It) : i.row[34]? = some (.int .i64 i.sec) := i.at_pl (j := 1) (by omega)
theorem at_un (i : It) : i.row[35]? = some (.int .i64 i.un) := i.at_pl (j := 2) (by omega)
theorem at_refs (i : It) : i.row[36]? = some (.int .i64 i.refs) := i.at_pl (j := 3) (by omega)
theorem at_sk (i : It) {j : Nat} (hj : j < 32) : i.row[39 + j]? = some (.int .u8 (i.sk[j]?.getD 0)) := (i.at_sl (by omega)).trans (i.sl_sk hj)
theorem at_off (i : It) : i.row[71]? = some (.int .i64 i.off) := (i.at_sl (j := 32) (by omega)).trans i.sl_off
theorem at_mask (i : It) : i.row[72]? = some (.int .i64 i.mask) := (i.at_sl (j := 33) (by omega)).trans i.sl_mask
/- writing -/
theorem splice_all {α : Type} {l cs : List α} (h : l.length = cs.length) : splice l 0 cs = cs := by
  simp [splice, ← h]
theorem put_key (i : It) (k : List Int) (h : k.length = 32) : splice i.row 1 (U k) = ({ i with key := k, hk := h } : It).row := splice_at i.row_split1 rfl (by simp [i.hk, h])
theorem put_pl (i j : It) : splice i.row 33 j.pl = ({ i with at_ := j.at_, sec := j.sec, un := j.un, refs := j.refs } : It).row := by
  rw [splice_at (cs := j.pl) i.row_split2 (by simp [i.hk]) rfl]; simp [row, pl, sl]
theorem put_snap (i : It) (n : Int) : i.row.set 37 (.int .i64 n) = ({ i with snap := n } : It).row := by
  rw [set_at i.row_split3 (by simp [i.hk])]; simp [row, pl, sl]
theorem put_unit (i : It) (n : Int) : i.row.set 38 (.int .i64 n) = ({ i with unit := n } : It).row := by
  rw [set_at i.row_split3' (by simp [i.hk])]; simp [row, pl, sl]
theorem put_sl (i j : It) : splice i.row 39 j.sl = ({ i with sk := j.sk, off := j.off, mask := j.mask, hs := j.hs } : It).row := by
  rw [splice_at i.row_split4 (by simp [i.hk]) (by simp)]; simp [row, pl, sl]
theorem put_kind (i : It) (n : Int) : i.row.set 0 (.int .u8 n) = ({ i with kind := n } : It).row := rfl
theorem put_all {l : List Value} (h : l.length = 73) (i : It) : splice l 0 i.row = i.row := splice_all (by simp [h])
/-- Nothing. -/
def zero (k : Int) : It := ⟨k, List.replicate 32 0, 0, 0, 0, 0, 0, 0, List.replicate 32 0, 0, 0, by simp, by simp⟩
end It

/-- What an item's kind has of it. -/
def It.bare (i : It) : It :=
  if i.kind = 1 then { It.zero 1 with key := i.key, at_ := i.at_, sec := i.sec, un := i.un, refs := i.refs, hk := i.hk }
  else if i.kind = 2 then { It.zero 2 with snap := i.snap, unit := i.unit, sk := i.sk, off := i.off, mask := i.mask, hs := i.hs }
  else if i.kind = 3 then { It.zero 3 with snap := i.snap }
  else It.zero i.kind
def inB (n a b : Int) : Bool := decide (a ≤ n) && decide (n ≤ b)
def It.fine (i : It) : Bool :=
  if i.kind = 1 then inB i.at_ 0 262144 && inB i.sec 1 1024 && inB i.un 1 16 && inB i.refs 1 2147483647
  else if i.kind = 2 then inB i.snap 0 1073741824 && inB i.unit 0 511 && inB i.off 0 15 && inB i.mask 1 255
  else if i.kind = 3 then inB i.snap 1 1073741824
  else false
def It.right (i : It) : Bool := i.fine && decide (i.bare = i)
def b8 (n : Int) : Int := n % 256
def be4 (n : Int) : List Int := [n / 16777216 % 256, n / 65536 % 256, n / 256 % 256, n % 256]
theorem U_set (l : List Int) (i : Nat) (v : Int) : (U l).set i (.int .u8 v) = U (l.set i v) := by simp [U, List.map_set]
theorem splice_nil {α : Type} (l : List α) (off : Nat) : splice l off [] = l := by simp [splice]
theorem splice_succ {α : Type} (l c : List α) (off k : Nat) (v : α) (hv : c[k]? = some v) (hf : off + c.length ≤ l.length) : (splice l off (c.take k)).set (off + k) v = splice l off (c.take (k + 1)) := by
  have hk : k < c.length := (List.getElem?_eq_some_iff.1 hv).1
  have hl1 : (c.take k).length = k := by simp; omega
  have hl2 : (c.take (k + 1)).length = k + 1 := by simp; omega
  obtain ⟨x, hx⟩ : ∃ x, l[off + k]? = some x := ⟨_, List.getElem?_eq_getElem (by omega)⟩
  have e : l.drop (off + k) = x :: l.drop (off + (k + 1)) := by
    have h := List.getElem?_eq_some_iff.1 hx
    rw [List.drop_eq_getElem_cons h.1, h.2]; rfl
  unfold splice
  rw [hl1, hl2, e]
  have hz : (l.take off ++ c.take k).length = off + k := by simp; omega
  rw [← List.append_assoc, set_at rfl hz, List.take_add_one, hv]
  simp
def It.enc (i : It) : List Int :=
  if i.kind = 1 then 1 :: (i.key ++ (List.replicate 7 0 ++ (be4 i.at_ ++ be4 i.sec ++ be4 i.un ++ be4 i.refs ++ List.replicate 24 0)))
  else if i.kind = 2 then 2 :: (be4 i.snap ++ be4 i.unit ++ List.replicate 31 0 ++ (i.sk ++ [b8 i.off, b8 i.mask] ++ List.replicate 6 0))
  else if i.kind = 3 then 3 :: (be4 i.snap ++ List.replicate 35 0 ++ List.replicate 40 0)
  else i.kind :: List.replicate 79 0
def It.ent (i : It) : List Int := if i.right then i.enc else List.replicate 80 0
def It.err (i : It) : Int := if i.right then 0 else 2
theorem It.enc_length (i : It) : i.enc.length = 80 := by unfold enc; repeat' split
                                                         all_goals simp [be4, i.hk, i.hs]
theorem It.ent_length (i : It) : i.ent.length = 80 := by unfold ent; split; exact i.enc_length; simp

/-! ### What the program tells of its types -/
instance : TySz Try.prog 3 1 := ⟨by kernel_rfl⟩
instance : TySz Try.prog 4 1 := ⟨by kernel_rfl⟩
instance : TySz Try.prog 5 1 := ⟨by kernel_rfl⟩
instance : TySz Try.prog 31 1 := ⟨by kernel_rfl⟩
instance : TySz Try.prog 45 1 := ⟨by kernel_rfl⟩
instance : TySz Try.prog 63 1 := ⟨by kernel_rfl⟩
instance : TySz Try.prog 55 1 := ⟨by kernel_rfl⟩
instance : TySz Try.prog 32 32 := ⟨by kernel_rfl⟩
instance : TySz Try.prog 33 32 := ⟨by kernel_rfl⟩
instance : TySz Try.prog 35 4 := ⟨by kernel_rfl⟩
instance : TySz Try.prog 37 34 := ⟨by kernel_rfl⟩
instance : TySz Try.prog 39 73 := ⟨by kernel_rfl⟩
instance : TySz Try.prog 40 40 := ⟨by kernel_rfl⟩
instance : TySz Try.prog 41 40 := ⟨by kernel_rfl⟩
instance : TySz Try.prog 42 40 := ⟨by kernel_rfl⟩
instance : TySz Try.prog 44 80 := ⟨by kernel_rfl⟩
instance : TySz Try.prog 65 4 := ⟨by kernel_rfl⟩
instance : TyRow Try.prog 32 := ⟨by kernel_rfl⟩
instance : TyRow Try.prog 33 := ⟨by kernel_rfl⟩
instance : TyRow Try.prog 35 := ⟨by kernel_rfl⟩
instance : TyRow Try.prog 37 := ⟨by kernel_rfl⟩
instance : TyRow Try.prog 39 := ⟨by kernel_rfl⟩
instance : TyRow Try.prog 40 := ⟨by kernel_rfl⟩
instance : TyRow Try.prog 41 := ⟨by kernel_rfl⟩
instance : TyRow Try.prog 42 := ⟨by kernel_rfl⟩
instance : TyRow Try.prog 44 := ⟨by kernel_rfl⟩
instance : TyRow Try.prog 65 := ⟨by kernel_rfl⟩
instance : TyOne Try.prog 3 := ⟨by kernel_rfl⟩
instance : TyOne Try.prog 4 := ⟨by kernel_rfl⟩
instance : TyOne Try.prog 5 := ⟨by kernel_rfl⟩
instance : TyOne Try.prog 31 := ⟨by kernel_rfl⟩
instance : TyOne Try.prog 45 := ⟨by kernel_rfl⟩
instance : TyOne Try.prog 63 := ⟨by kernel_rfl⟩
instance : TyOne Try.prog 55 := ⟨by kernel_rfl⟩
instance : TyArr Try.prog 65 4 3 := ⟨Try.underlying65⟩
instance : TyArr Try.prog 41 40 5 := ⟨Try.underlying41⟩
instance : TyArr Try.prog 42 40 5 := ⟨Try.underlying42⟩
instance : TyArr Try.prog 33 32 5 := ⟨Try.underlying33⟩
instance : TySl Try.prog 63 5 := ⟨Try.underlying63⟩
def Z (n : Nat) : List Int := List.replicate n 0
@[simp] theorem Z_length (n : Nat) : (Z n).length = n := by simp [Z]
class Ln (l : List Int) (n : outParam Nat) : Prop where out : l.length = n
instance {n} : Ln (Z n) n := ⟨Z_length n⟩
instance {i : It} : Ln i.key 32 := ⟨i.hk⟩
instance {i : It} : Ln i.sk 32 := ⟨i.hs⟩
instance {i : It} : Ln i.enc 80 := ⟨i.enc_length⟩
instance {i : It} : Ln i.ent 80 := ⟨i.ent_length⟩
instance {x l n} [h : Ln l n] : Ln (x :: l) (n + 1) := ⟨by simp [h.out]⟩
instance : TyZ Try.prog 44 (U (Z 80)) := ⟨by kernel_rfl⟩
instance : TyZ Try.prog 39 (It.zero 0).row := ⟨by kernel_rfl⟩
instance : TyZ Try.prog 35 (It.zero 0).pl := ⟨by kernel_rfl⟩
instance : TyZ Try.prog 37 (It.zero 0).sl := ⟨by kernel_rfl⟩
instance : TyZ Try.prog 41 (U (Z 40)) := ⟨by kernel_rfl⟩
instance : TyZ Try.prog 42 (U (Z 40)) := ⟨by kernel_rfl⟩
instance : TyZ Try.prog 33 (U (Z 32)) := ⟨by kernel_rfl⟩
instance : TyZ Try.prog 3 [.int .i64 0] := ⟨by kernel_rfl⟩

/-! ### Items as rows of cells -/
instance {i : It} : At i.row 0 (.int .u8 i.kind) := ⟨i.at_kind⟩
instance {i : It} : At i.row 33 (.int .i64 i.at_) := ⟨i.at_at⟩
instance {i : It} : At i.row 34 (.int .i64 i.sec) := ⟨i.at_sec⟩
instance {i : It} : At i.row 35 (.int .i64 i.un) := ⟨i.at_un⟩
instance {i : It} : At i.row 36 (.int .i64 i.refs) := ⟨i.at_refs⟩
instance {i : It} : At i.row 37 (.int .i64 i.snap) := ⟨i.at_snap⟩
instance {i : It} : At i.row 38 (.int .i64 i.unit) := ⟨i.at_unit⟩
instance {i : It} : At i.row 71 (.int .i64 i.off) := ⟨i.at_off⟩
instance {i : It} : At i.row 72 (.int .i64 i.mask) := ⟨i.at_mask⟩
instance {i : It} : At i.sl 32 (.int .i64 i.off) := ⟨i.sl_off⟩
instance {i : It} : At i.sl 33 (.int .i64 i.mask) := ⟨i.sl_mask⟩
instance {i : It} : At i.pl 0 (.int .i64 i.at_) := ⟨rfl⟩
instance {i : It} : At i.pl 1 (.int .i64 i.sec) := ⟨rfl⟩
instance {i : It} : At i.pl 2 (.int .i64 i.un) := ⟨rfl⟩
instance {i : It} : At i.pl 3 (.int .i64 i.refs) := ⟨rfl⟩
instance {i : It} : Part i.row 1 32 (U i.key) := ⟨i.part_key, by simp⟩
instance {i : It} : Part i.row 33 4 i.pl := ⟨i.part_pl, by simp⟩
instance {i : It} : Part i.row 39 34 i.sl := ⟨i.part_sl, by simp⟩
instance {i : It} : Part i.row 0 73 i.row := ⟨i.part_all, by simp⟩
instance {i : It} : Part i.sl 0 32 (U i.sk) := ⟨i.sl_key, by simp⟩
instance {i : It} : Part i.sl 0 34 i.sl := ⟨i.sl_all, by simp⟩
instance {i : It} : Part i.pl 0 4 i.pl := ⟨rfl, by simp⟩
theorem U_whole {l : List Int} {n : Nat} (h : l.length = n) : ((U l).drop 0).take n = U l := by rw [List.drop_zero, List.take_of_length_le (by simp [h])]
instance {l n} [h : Ln l n] : Part (U l) 0 n (U l) := ⟨U_whole h.out, by simp [h.out]⟩
instance {l} : Ones (U l) := ⟨U_one l⟩
instance {l} : Ones (N l) := ⟨N_one l⟩
instance {i : It} : Ones i.row := ⟨i.one⟩
instance {i : It} : Ones i.pl := ⟨i.pl_one⟩
instance {i : It} : Ones i.sl := ⟨i.sl_one⟩
instance {i j : It} : Spl j.row 0 73 i.row i.row := ⟨It.put_all (by simp) i, by simp, by simp⟩
instance {i j : It} : Spl j.pl 0 4 i.pl i.pl := ⟨It.splice_all (by simp), by simp, by simp⟩
instance {i j : It} : Spl j.sl 0 34 i.sl i.sl := ⟨It.splice_all (by simp), by simp, by simp⟩
instance {i j : It} : Spl i.row 1 32 (U j.key) ({ i with key := j.key, hk := j.hk } : It).row := ⟨i.put_key _ j.hk, by simp, by simp [j.hk]⟩
instance {i j : It} : Spl i.row 33 4 j.pl ({ i with at_ := j.at_, sec := j.sec, un := j.un, refs := j.refs } : It).row := ⟨i.put_pl j, by simp, by simp⟩
instance {i j : It} : Spl i.row 39 34 j.sl ({ i with sk := j.sk, off := j.off, mask := j.mask, hs := j.hs } : It).row := ⟨i.put_sl j, by simp, by simp⟩
instance {i : It} {n : Int} : Put i.row 0 (.int .u8 n) ({ i with kind := n } : It).row := ⟨rfl, by simp⟩
instance {i : It} {n : Int} : Put i.row 37 (.int .i64 n) ({ i with snap := n } : It).row := ⟨i.put_snap n, by simp⟩
instance {i : It} {n : Int} : Put i.row 38 (.int .i64 n) ({ i with unit := n } : It).row := ⟨i.put_unit n, by simp⟩
theorem U_over {l m : List Int} {n : Nat} (h : l.length = n) (k : m.length = n) : splice (U l) 0 (U m) = U m := It.splice_all (by simp [h, k])
instance {l m n} [h : Ln l n] [k : Ln m n] : Spl (U l) 0 n (U m) (U m) := ⟨U_over h.out k.out, by simp [h.out], by simp [k.out]⟩

/-! ### Built and compared as values -/
theorem k35 : flatKinds Try.prog 4 35 = some (List.replicate 4 .i64) := by kernel_rfl
theorem k33 : flatKinds Try.prog 4 33 = some (List.replicate 32 .u8) := by kernel_rfl
theorem k37 : flatKinds Try.prog 4 37 = some (List.replicate 32 .u8 ++ [.i64, .i64]) := by kernel_rfl
theorem k39 : flatKinds Try.prog 4 39 = some It.kinds := by kernel_rfl
theorem k44 : flatKinds Try.prog 4 44 = some (List.replicate 80 .u8) := by kernel_rfl
theorem k41 : flatKinds Try.prog 4 41 = some (List.replicate 40 .u8) := by kernel_rfl
instance {k} : Bld Try.prog 39 [(0, .int .u8 k)] (It.zero k).row := ⟨fun w => run_build w 39 _ _ (by kernel_rfl)⟩
instance : Bld Try.prog 39 [] (It.zero 0).row := ⟨fun w => run_build w 39 _ _ (by kernel_rfl)⟩
instance : Bld Try.prog 37 [] (It.zero 0).sl := ⟨fun w => run_build w 37 _ _ (by kernel_rfl)⟩
instance : Bld Try.prog 33 [] (U (It.zero 0).key) := ⟨fun w => run_build w 33 _ _ (by kernel_rfl)⟩
instance : Bld Try.prog 35 [] (It.zero 0).pl := ⟨fun w => run_build w 35 _ _ (by kernel_rfl)⟩
instance {k} : Bld Try.prog 41 [(0, .int .u8 k)] (U (k :: Z 39)) := ⟨fun w => run_build w 41 _ _ (by kernel_rfl)⟩
instance {k} : Bld Try.prog 44 [(0, .agg (U (k :: Z 39)).toArray)] (U (k :: Z 79)) := ⟨fun w => run_build w 44 _ _ (by kernel_rfl)⟩
instance : Bld Try.prog 44 [] (U (Z 80)) := ⟨fun w => run_build w 44 _ _ (by kernel_rfl)⟩
instance {a b c d} : Bld Try.prog 65 [(0, .int .i64 a), (1, .int .i64 b), (2, .int .i64 c), (3, .int .i64 d)] [.int .i64 a, .int .i64 b, .int .i64 c, .int .i64 d] := ⟨fun w => run_build w 65 _ _ (by kernel_rfl)⟩
theorem It.pl_zip (i : It) : List.zipWith Value.int (List.replicate 4 .i64) [i.at_, i.sec, i.un, i.refs] = i.pl := rfl
theorem It.sl_zip (i : It) : List.zipWith Value.int (List.replicate 32 .u8 ++ [.i64, .i64]) (i.sk ++ [i.off, i.mask]) = i.sl := by
  rw [It.zip_append (by simp [i.hs]), It.zip_u i.hs]; rfl
theorem It.key_zip (i : It) : List.zipWith Value.int (List.replicate 32 .u8) i.key = U i.key := It.zip_u i.hk
theorem eql35 (i j : It) (w : World) : (binOp .eql 35 (.agg i.pl.toArray) (.agg j.pl.toArray)).run Try.prog w = .ok (.bool ([i.at_, i.sec, i.un, i.refs] == [j.at_, j.sec, j.un, j.refs])) w := by
  rw [← i.pl_zip, ← j.pl_zip]; exact run_eql_flat (by decide) k35 (by rw [Try.underlying35]; rfl) _ _ (by simp) (by simp) w
theorem eql37 (i j : It) (w : World) : (binOp .eql 37 (.agg i.sl.toArray) (.agg j.sl.toArray)).run Try.prog w = .ok (.bool ((i.sk ++ [i.off, i.mask]) == (j.sk ++ [j.off, j.mask]))) w := by
  rw [← i.sl_zip, ← j.sl_zip]; exact run_eql_flat (by decide) k37 (by rw [Try.underlying37]; rfl) _ _ (by simp [i.hs]) (by simp [j.hs]) w
theorem eql33 (i j : It) (w : World) : (binOp .eql 33 (.agg (U i.key).toArray) (.agg (U j.key).toArray)).run Try.prog w = .ok (.bool (i.key == j.key)) w := by
  rw [← i.key_zip, ← j.key_zip]; exact run_eql_flat (by decide) k33 (by rw [Try.underlying33]; rfl) _ _ (by simp [i.hk]) (by simp [j.hk]) w
theorem beq_it {i j : It} : (i.ints == j.ints) = decide (i = j) := by
  rw [Bool.eq_iff_iff]; simp [It.ints_inj]
theorem eql39 (i j : It) (w : World) : (binOp .eql 39 (.agg i.row.toArray) (.agg j.row.toArray)).run Try.prog w = .ok (.bool (decide (i = j))) w := by
  rw [← i.row_zip, ← j.row_zip, ← beq_it]; exact run_eql_flat (by decide) k39 (by rw [Try.underlying39]; rfl) _ _ (by simp [It.kinds]) (by simp [It.kinds]) w
theorem neq39 (i j : It) (w : World) : (binOp .neq 39 (.agg i.row.toArray) (.agg j.row.toArray)).run Try.prog w = .ok (.bool (!decide (i = j))) w := by
  rw [← i.row_zip, ← j.row_zip, ← beq_it]; exact run_neq_flat (by decide) k39 (by rw [Try.underlying39]; rfl) _ _ (by simp [It.kinds]) (by simp [It.kinds]) w
theorem U_zipn {l : List Int} {n : Nat} (h : l.length = n) : List.zipWith Value.int (List.replicate n .u8) l = U l := by subst h; exact U_zip l
theorem eql44 {l m : List Int} (hl : l.length = 80) (hm : m.length = 80) (w : World) : (binOp .eql 44 (.agg (U l).toArray) (.agg (U m).toArray)).run Try.prog w = .ok (.bool (l == m)) w := by
  rw [← U_zipn hl, ← U_zipn hm]; exact run_eql_flat (by decide) k44 (by rw [Try.underlying44]; rfl) _ _ (by simp [hl]) (by simp [hm]) w
theorem neq44 {l m : List Int} (hl : l.length = 80) (hm : m.length = 80) (w : World) : (binOp .neq 44 (.agg (U l).toArray) (.agg (U m).toArray)).run Try.prog w = .ok (.bool (!(l == m))) w := by
  rw [← U_zipn hl, ← U_zipn hm]; exact run_neq_flat (by decide) k44 (by rw [Try.underlying44]; rfl) _ _ (by simp [hl]) (by simp [hm]) w
theorem eql41 {l m : List Int} (hl : l.length = 40) (hm : m.length = 40) (w : World) : (binOp .eql 41 (.agg (U l).toArray) (.agg (U m).toArray)).run Try.prog w = .ok (.bool (l == m)) w := by
  rw [← U_zipn hl, ← U_zipn hm]; exact run_eql_flat (by decide) k41 (by rw [Try.underlying41]; rfl) _ _ (by simp [hl]) (by simp [hm]) w
instance {i j : It} : Cmp Try.prog .eql 35 i.pl j.pl ([i.at_, i.sec, i.un, i.refs] == [j.at_, j.sec, j.un, j.refs]) := ⟨eql35 i j⟩
instance {i j : It} : Cmp Try.prog .eql 37 i.sl j.sl ((i.sk ++ [i.off, i.mask]) == (j.sk ++ [j.off, j.mask])) := ⟨eql37 i j⟩
instance {i j : It} : Cmp Try.prog .eql 33 (U i.key) (U j.key) (i.key == j.key) := ⟨eql33 i j⟩
instance {i j : It} : Cmp Try.prog .eql 39 i.row j.row (decide (i = j)) := ⟨eql39 i j⟩
instance {i j : It} : Cmp Try.prog .neq 39 i.row j.row (!decide (i = j)) := ⟨neq39 i j⟩
instance {l m} [h : Ln l 80] [k : Ln m 80] : Cmp Try.prog .eql 44 (U l) (U m) (l == m) := ⟨eql44 h.out k.out⟩
instance {l m} [h : Ln l 80] [k : Ln m 80] : Cmp Try.prog .neq 44 (U l) (U m) (!(l == m)) := ⟨neq44 h.out k.out⟩
instance {l m} [h : Ln l 40] [k : Ln m 40] : Cmp Try.prog .eql 41 (U l) (U m) (l == m) := ⟨eql41 h.out k.out⟩
instance : NoIf Try.prog 33 := ⟨by kernel_rfl⟩
instance : NoIf Try.prog 35 := ⟨by kernel_rfl⟩
instance : NoIf Try.prog 37 := ⟨by kernel_rfl⟩
instance : NoIf Try.prog 39 := ⟨by kernel_rfl⟩
instance : NoIf Try.prog 44 := ⟨by kernel_rfl⟩
instance : NoIf Try.prog 41 := ⟨by kernel_rfl⟩
end Go.Proofs.Ytcpkbhoocblpjaa.E
