/- Laws on memory, of no program: a block known whole; what a write, a new block does to it; the operations alloc, box, load, store, copy over such blocks. -/
import Derived.WalkKit
import Derived.WalkSpells
import Derived.WalkLawsBesides
import Derived.Lib.Hide
import Derived.Deep.MidRow
import Derived.Laws.CopyOwn
namespace Go.Proofs.Ytpkhomfblilkhaa.E
set_option linter.all false
open Go.RowKit

theorem rint {k : IntKind} {a b : Int} (h : a = b) : Ending.returned (.int k a) = .returned (.int k b) := by rw [h]
theorem rbool {a b : Bool} (h : a = b) : Ending.returned (.bool a) = .returned (.bool b) := by rw [h]

/-- w' is w, some draws later. -/
def Drawn (w w' : World) : Prop := ∃ n, w' = w.drewN n
theorem Drawn.refl (w : World) : Drawn w w := ⟨0, rfl⟩
theorem Drawn.trans {a b c : World} (h : Drawn a b) (k : Drawn b c) : Drawn a c := by
  obtain ⟨n, rfl⟩ := h; obtain ⟨m, rfl⟩ := k; exact ⟨n + m, by simp⟩
theorem Drawn.drewN {a b : World} (h : Drawn a b) (n : Nat) : Drawn a (b.drewN n) := h.trans ⟨n, rfl⟩
theorem Drawn.heap {a b : World} (h : Drawn a b) : b.heap = a.heap := by
  obtain ⟨n, rfl⟩ := h; rfl
theorem Drawn.cell {a b : World} (h : Drawn a b) (p : Addr) : b.cell? p = a.cell? p := World.cell?_of_block (by rw [h.heap])
theorem Drawn.below {a b : World} (h : Drawn a b) (B : Nat) : Below B a b := by
  obtain ⟨n, rfl⟩ := h; exact ⟨rfl, rfl, rfl, Nat.le_refl _, fun _ _ => rfl⟩

/-- Block b is known whole: its cells are l. -/
def Blk (w : World) (b : Nat) (T : TypeId) (l : List Value) : Prop := w.heap[b]? = some (.cells l.toArray T (0, 0))
theorem Blk.lt {w : World} {b : Nat} {T : TypeId} {l : List Value} (h : Blk w b T l) : b < w.heap.size := (Array.getElem?_eq_some_iff.1 h).1
theorem Blk.cell {w : World} {b : Nat} {T : TypeId} {l : List Value} (h : Blk w b T l) (i : Nat) : w.cell? ⟨b, i, none⟩ = l[i]? := by
  unfold World.cell?; rw [show w.heap[b]? = _ from h]; simp
theorem Blk.frozen {w : World} {b : Nat} {T : TypeId} {l : List Value} (h : Blk w b T l) (i : Nat) : w.frozen? ⟨b, i, none⟩ = false := by
  unfold World.frozen?; rw [show w.heap[b]? = _ from h]; simp
theorem Blk.below {w w' : World} {b : Nat} {T : TypeId} {l : List Value} (h : Blk w b T l) {B : Nat} (hb : Below B w w') (hB : b < B) : Blk w' b T l := (hb.block b hB).trans h
theorem Blk.drawn {w w' : World} {b : Nat} {T : TypeId} {l : List Value} (h : Blk w b T l) (hd : Drawn w w') : Blk w' b T l := by
  unfold Blk; rw [hd.heap]; exact h
theorem Blk.drew {w : World} {b : Nat} {T : TypeId} {l : List Value} (h : Blk w b T l) : Blk w.drew b T l := h
theorem Blk.range {w : World} {b : Nat} {T : TypeId} {l : List Value} (h : Blk w b T l) (o : Nat) (cs rest : List Value) (pre : List Value) (hl : l = pre ++ (cs ++ rest)) (ho : pre.length = o) : w.rangeAt b o cs := fun j v hv => by
  have hj : j < cs.length := (List.getElem?_eq_some_iff.1 hv).1
  rw [h.cell, hl, List.getElem?_append_right (by omega), ho, show o + j - o = j by omega, List.getElem?_append_left hj, hv]

/-- Of w' nothing but block g has turned. -/
structure Wrote (w w' : World) (g : Nat) : Prop where
  os : w'.os = w.os
  tape : w'.tape = w.tape
  output : w'.output = w.output
  size : w'.heap.size = w.heap.size
  block : ∀ k, k ≠ g → w'.heap[k]? = w.heap[k]?
/-- w' is w with one new block. -/
structure Made (w w' : World) (T : TypeId) (l : List Value) : Prop where
  os : w'.os = w.os
  tape : w'.tape = w.tape
  output : w'.output = w.output
  size : w'.heap.size = w.heap.size + 1
  new : Blk w' w.heap.size T l
  old : ∀ k, k < w.heap.size → w'.heap[k]? = w.heap[k]?
theorem Blk.wrote {w w' : World} {b g : Nat} {T : TypeId} {l : List Value} (h : Blk w b T l) (hw : Wrote w w' g) (hne : b ≠ g) : Blk w' b T l := (hw.block b hne).trans h
theorem Blk.made {w w' : World} {b : Nat} {T T' : TypeId} {l l' : List Value} (h : Blk w b T l) (hm : Made w w' T' l') : Blk w' b T l := (hm.old b h.lt).trans h
theorem Below.wrote {w0 w w' : World} {B g : Nat} (h : Below B w0 w) (hw : Wrote w w' g) (hB : B ≤ g) : Below B w0 w' :=
  h.trans ⟨hw.os, hw.tape, hw.output, by rw [hw.size]; exact Nat.le_refl _, fun k hk => hw.block k (by omega)⟩
theorem Below.made {w0 w w' : World} {B : Nat} {T : TypeId} {l : List Value} (h : Below B w0 w) (hm : Made w w' T l) (hB : B ≤ w.heap.size) : Below B w0 w' :=
  h.trans ⟨hm.os, hm.tape, hm.output, by rw [hm.size]; omega, fun k hk => hm.old k (by omega)⟩
theorem made_alloc (w : World) (T : TypeId) (cs : Array Value) : Made w (w.alloc (.cells cs T)) T cs.toList :=
  ⟨rfl, rfl, rfl, World.size_alloc _ _, by unfold Blk; rw [heap_alloc_new], fun k hk => Below.heap_alloc w _ k hk⟩
theorem wrote_setRow {w : World} {g : Nat} (cs : Array Value) : Wrote w (w.setRow g cs) g :=
  ⟨rfl, rfl, rfl, by simp, fun k hk => setRow_other w g k cs hk⟩
theorem Wrote.trans {a b c : World} {g : Nat} (h : Wrote a b g) (k : Wrote b c g) : Wrote a c g :=
  ⟨k.os.trans h.os, k.tape.trans h.tape, k.output.trans h.output, k.size.trans h.size, fun i hi => (k.block i hi).trans (h.block i hi)⟩
theorem Wrote.refl (a : World) (g : Nat) : Wrote a a g := ⟨rfl, rfl, rfl, rfl, fun _ _ => rfl⟩
theorem Blk.setRow {w : World} {g : Nat} {T : TypeId} {l : List Value} (h : Blk w g T l) (l' : List Value) : Blk (w.setRow g l'.toArray) g T l' := setRow_heap w g _ _ T _ h
theorem Blk.setCell {w : World} {g i : Nat} {T : TypeId} {l : List Value} (h : Blk w g T l) (v : Value) : Blk (w.setCell ⟨g, i, none⟩ v) g T (l.set i v) := by
  have := heap_setCell_same w g i l.toArray T v h
  unfold Blk; rw [this]; simp
theorem wrote_setCell (w : World) (g i : Nat) (v : Value) : Wrote w (w.setCell ⟨g, i, none⟩ v) g :=
  ⟨rfl, rfl, rfl, by simp, fun k hk => heap_setCell_other w ⟨g, i, none⟩ k v hk⟩

theorem splice_len {α : Type} (L : List α) (off : Nat) (cs : List α) (h : off + cs.length ≤ L.length) : (splice L off cs).length = L.length := length_splice L off cs h
/-- The splice at a known place. -/
theorem splice_at {α : Type} {L pre mid post cs : List α} {off : Nat} (h : L = pre ++ (mid ++ post)) (ho : pre.length = off) (hm : mid.length = cs.length) : splice L off cs = pre ++ (cs ++ post) := by
  subst h ho
  unfold splice
  rw [List.take_left, ← List.drop_drop, List.drop_left, ← hm, List.drop_left]
theorem set_at {α : Type} {L pre post : List α} {x v : α} {off : Nat} (h : L = pre ++ x :: post) (ho : pre.length = off) : L.set off v = pre ++ v :: post := by
  subst h ho; simp

section
variable {P : Program} {ops : Array Oper} {rest : List Oper} {o : Oper} {a : Act} {w : World} {Q : Exit → Act → World → Prop} {K : Act → World → Prop}

theorem wpList_want (hgd : Region.wanted o (yielded ops a.tmps) = true) (h : ∀ K : Act → World → Prop, (∀ a w, wpList P ops Q rest a w → K a w) → o.wp P a w K Q) : wpList P ops Q (o :: rest) a w :=
  wpList_step fun K hK => by rw [if_pos hgd]; exact h K hK
theorem O_alloc (T : TypeId) (ho : o.op = .alloc T) (z : Value) (hz : (P.info? T).map (·.zero) = some (some z))
    (h : ∀ w', Made w w' T z.cells.toList → K (a.put o.dst (.pointer (some ⟨w.heap.size, 0, none⟩))) w') : Oper.wp P o a w K Q := by
  obtain ⟨i, hi, hz'⟩ := Option.map_eq_some_iff.1 hz
  unfold Oper.wp execOp
  simp only [ho]
  have hr : (Instr.alloc T true (.tuple #[])).run P w = .ok (.pointer (some ⟨w.heap.size, 0, none⟩)) (w.alloc (.cells z.cells T)) := by
    simp [Instr.alloc, zeroValue, typeInfo, hi, hz', newVar, newRow, go_sem]
  simp only [Sem.run_bind, hr, Result.andThen_ok, Sem.run_pure]
  exact h _ (made_alloc w T z.cells)
theorem L_alloc (hgd : Region.wanted o (yielded ops a.tmps) = true) (T : TypeId) (ho : o.op = .alloc T) (z : Value) (hz : (P.info? T).map (·.zero) = some (some z))
    (h : ∀ w', Made w w' T z.cells.toList → wpList P ops Q rest (a.put o.dst (.pointer (some ⟨w.heap.size, 0, none⟩))) w') : wpList P ops Q (o :: rest) a w :=
  wpList_want hgd fun _ hK => O_alloc T ho z hz (fun w' h0 => hK _ _ (h w' h0))
theorem O_box (T : TypeId) (x : Operand) (ho : o.op = .box T x) (v : Value) (hx : a.eval x = v)
    (h : ∀ w', Made w w' T v.cells.toList → K (a.put o.dst (.pointer (some ⟨w.heap.size, 0, none⟩))) w') : Oper.wp P o a w K Q := by
  unfold Oper.wp execOp
  simp only [ho, hx]
  have hr : (Instr.box T v).run P w = .ok (.pointer (some ⟨w.heap.size, 0, none⟩)) (w.alloc (.cells v.cells T)) := by
    simp [Instr.box, newVar, newRow, go_sem]
  simp only [Sem.run_bind, hr, Result.andThen_ok, Sem.run_pure]
  exact h _ (made_alloc w T v.cells)
theorem L_box (hgd : Region.wanted o (yielded ops a.tmps) = true) (T : TypeId) (x : Operand) (ho : o.op = .box T x) (v : Value) (hx : a.eval x = v)
    (h : ∀ w', Made w w' T v.cells.toList → wpList P ops Q rest (a.put o.dst (.pointer (some ⟨w.heap.size, 0, none⟩))) w') : wpList P ops Q (o :: rest) a w :=
  wpList_want hgd fun _ hK => O_box T x ho v hx (fun w' h0 => hK _ _ (h w' h0))
/-- A struct or an array is read out of a block known whole. -/
theorem run_load_blk {w : World} {b off n T Tb : Nat} {l : List Value} {d : TypeDesc} (hb : Blk w b Tb l) (hi : (P.info? T).map (·.size) = some n) (hu : P.underlying T = some d) (hd : d.isRow = true) (hfit : off + n ≤ l.length) :
    (Instr.loadAt T (.pointer (some ⟨b, off, none⟩))).run P w = .ok (.agg ((l.drop off).take n).toArray) w := by
  refine run_loadAt_mid w b off T _ d ?_ hu hd (by rw [hi]; simp; omega)
  intro j v hv
  rw [hb.cell, ← hv]
  have hj : j < ((l.drop off).take n).length := (List.getElem?_eq_some_iff.1 hv).1
  rw [List.getElem?_take]
  have : j < n := by simp at hj; omega
  simp [this]
theorem run_store_blk {w : World} {b off T Tb : Nat} {l cs : List Value} (hb : Blk w b Tb l) (hi : (P.info? T).map (·.size) = some cs.length) (hfit : off + cs.length ≤ l.length) (h1 : ∀ v ∈ cs, v.oneCell' = true) :
    (Instr.storeAt T (.pointer (some ⟨b, off, none⟩)) (.agg cs.toArray)).run P w = .ok () (w.setRow b (splice l off cs).toArray) := by
  have hst := run_storeCells_at P b off Tb cs 0 l.toArray w hb (by simpa using hfit) h1
  obtain ⟨i, hi1, hi2⟩ := Option.map_eq_some_iff.1 hi
  simp only [Nat.add_zero] at hst
  have e : (l.toArray.toList.take off ++ cs ++ l.toArray.toList.drop (off + cs.length)).toArray = (splice l off cs).toArray := by simp [splice]
  rw [e] at hst
  simp [Instr.storeAt, Instr.sureAddr, storeVar, sizeOf, typeInfo, hi1, hi2, Value.cells, hst]

theorem O_load (T : TypeId) (x : Operand) (ho : o.op = .load T x) (b off : Nat) (hx : a.eval x = .pointer (some ⟨b, off, none⟩)) (Tb : TypeId) (l : List Value) (hb : Blk w b Tb l)
    (n : Nat) (hi : (P.info? T).map (·.size) = some n) (d : TypeDesc) (hu : P.underlying T = some d) (hd : d.isRow = true) (hfit : off + n ≤ l.length)
    (cs : List Value) (hcs : (l.drop off).take n = cs) (h : K (a.put o.dst (.agg cs.toArray)) w) : Oper.wp P o a w K Q := by
  subst hcs
  unfold Oper.wp execOp
  simp only [ho, hx, Sem.run_bind, run_load_blk hb hi hu hd hfit, Result.andThen_ok, Sem.run_pure]
  exact h
theorem L_load (hgd : Region.wanted o (yielded ops a.tmps) = true) (T : TypeId) (x : Operand) (ho : o.op = .load T x) (b off : Nat) (hx : a.eval x = .pointer (some ⟨b, off, none⟩)) (Tb : TypeId) (l : List Value) (hb : Blk w b Tb l)
    (n : Nat) (hi : (P.info? T).map (·.size) = some n) (d : TypeDesc) (hu : P.underlying T = some d) (hd : d.isRow = true) (hfit : off + n ≤ l.length)
    (cs : List Value) (hcs : (l.drop off).take n = cs) (h : wpList P ops Q rest (a.put o.dst (.agg cs.toArray)) w) : wpList P ops Q (o :: rest) a w :=
  wpList_want hgd fun _ hK => O_load T x ho b off hx Tb l hb n hi d hu hd hfit cs hcs (hK _ _ h)
theorem O_load1 (T : TypeId) (x : Operand) (ho : o.op = .load T x) (b off : Nat) (hx : a.eval x = .pointer (some ⟨b, off, none⟩)) (Tb : TypeId) (l : List Value) (hb : Blk w b Tb l)
    (ha : ∀ w, (isAgg T).run P w = .ok false w) (v : Value) (hv : l[off]? = some v) (h : K (a.put o.dst v) w) : Oper.wp P o a w K Q := by
  have hc : w.cell? ⟨b, off, none⟩ = some v := by rw [hb.cell]; exact hv
  unfold Oper.wp execOp
  simp only [ho, hx]
  simp [Instr.loadAt, Instr.sureAddr, loadVar, ha, hc]
  exact h
theorem L_load1 (hgd : Region.wanted o (yielded ops a.tmps) = true) (T : TypeId) (x : Operand) (ho : o.op = .load T x) (b off : Nat) (hx : a.eval x = .pointer (some ⟨b, off, none⟩)) (Tb : TypeId) (l : List Value) (hb : Blk w b Tb l)
    (ha : ∀ w, (isAgg T).run P w = .ok false w) (v : Value) (hv : l[off]? = some v) (h : wpList P ops Q rest (a.put o.dst v) w) : wpList P ops Q (o :: rest) a w :=
  wpList_want hgd fun _ hK => O_load1 T x ho b off hx Tb l hb ha v hv (hK _ _ h)
theorem O_store (T : TypeId) (x y : Operand) (ho : o.op = .store T x y) (b off : Nat) (hx : a.eval x = .pointer (some ⟨b, off, none⟩)) (cs : List Value) (hy : a.eval y = .agg cs.toArray)
    (Tb : TypeId) (l : List Value) (hb : Blk w b Tb l) (hi : (P.info? T).map (·.size) = some cs.length) (hfit : off + cs.length ≤ l.length) (h1 : ∀ v ∈ cs, v.oneCell' = true)
    (h : ∀ w', Blk w' b Tb (splice l off cs) → Wrote w w' b → K (a.put o.dst undef) w') : Oper.wp P o a w K Q := by
  unfold Oper.wp execOp
  simp only [ho, hx, hy, Sem.run_bind, run_store_blk hb hi hfit h1, Result.andThen_ok, Sem.run_pure]
  exact h _ (hb.setRow _) (wrote_setRow _)
theorem L_store (hgd : Region.wanted o (yielded ops a.tmps) = true) (T : TypeId) (x y : Operand) (ho : o.op = .store T x y) (b off : Nat) (hx : a.eval x = .pointer (some ⟨b, off, none⟩)) (cs : List Value) (hy : a.eval y = .agg cs.toArray)
    (Tb : TypeId) (l : List Value) (hb : Blk w b Tb l) (hi : (P.info? T).map (·.size) = some cs.length) (hfit : off + cs.length ≤ l.length) (h1 : ∀ v ∈ cs, v.oneCell' = true)
    (h : ∀ w', Blk w' b Tb (splice l off cs) → Wrote w w' b → wpList P ops Q rest (a.put o.dst undef) w') : wpList P ops Q (o :: rest) a w :=
  wpList_want hgd fun _ hK => O_store T x y ho b off hx cs hy Tb l hb hi hfit h1 (fun w' h0 h1 => hK _ _ (h w' h0 h1))
theorem O_store1 (T : TypeId) (x y : Operand) (ho : o.op = .store T x y) (b off : Nat) (hx : a.eval x = .pointer (some ⟨b, off, none⟩)) (v : Value) (hy : a.eval y = v) (hv : v.oneCell' = true)
    (Tb : TypeId) (l : List Value) (hb : Blk w b Tb l) (hi : (P.info? T).map (·.size) = some 1) (hfit : off < l.length)
    (h : ∀ w', Blk w' b Tb (l.set off v) → Wrote w w' b → K (a.put o.dst undef) w') : Oper.wp P o a w K Q := by
  have hcs : v.cells = #[v] := by cases v <;> first | rfl | simp [Value.oneCell'] at hv
  have hst := run_storeCells_at P b off Tb [v] 0 l.toArray w hb (by simp; omega) (by simpa using hv)
  obtain ⟨i, hi1, hi2⟩ := Option.map_eq_some_iff.1 hi
  simp only [Nat.add_zero] at hst
  have e : (l.toArray.toList.take off ++ [v] ++ l.toArray.toList.drop (off + [v].length)).toArray = (l.set off v).toArray := by
    congr 1
    rw [List.set_eq_take_append_cons_drop, if_pos hfit]
    simp
  rw [e] at hst
  unfold Oper.wp execOp
  simp only [ho, hx, hy]
  simp [Instr.storeAt, Instr.sureAddr, storeVar, sizeOf, typeInfo, hi1, hi2, hcs, hst]
  exact h _ (hb.setRow _) (wrote_setRow _)
theorem L_store1 (hgd : Region.wanted o (yielded ops a.tmps) = true) (T : TypeId) (x y : Operand) (ho : o.op = .store T x y) (b off : Nat) (hx : a.eval x = .pointer (some ⟨b, off, none⟩)) (v : Value) (hy : a.eval y = v) (hv : v.oneCell' = true)
    (Tb : TypeId) (l : List Value) (hb : Blk w b Tb l) (hi : (P.info? T).map (·.size) = some 1) (hfit : off < l.length)
    (h : ∀ w', Blk w' b Tb (l.set off v) → Wrote w w' b → wpList P ops Q rest (a.put o.dst undef) w') : wpList P ops Q (o :: rest) a w :=
  wpList_want hgd fun _ hK => O_store1 T x y ho b off hx v hy hv Tb l hb hi hfit (fun w' h0 h1 => hK _ _ (h w' h0 h1))
/-- copy over a block known whole, elements of any size. -/
theorem run_copy_blk {w : World} (dT sT ty elem : TypeId) (size g off dLen dCap : Nat) (ad : Addr) (sLen sCap : Nat) {T : TypeId} {l cs : List Value}
    (hu : P.underlying dT = some (.slice elem)) (hs : (P.info? elem).map (·.size) = some size) (hg : Blk w g T l) (hn : cs.length = Nat.min sLen dLen * size)
    (hsrc : ∀ j v, cs[j]? = some v → w.cell? (ad.add j) = some v) (hfit : off + cs.length ≤ l.length) (h1 : ∀ v ∈ cs, v.oneCell' = true) :
    (Builtin.copy_ #[dT, sT] ty #[.slice (some ⟨g, off, none⟩) dLen dCap, .slice (some ad) sLen sCap]).run P w = .ok (goInt (Nat.min sLen dLen : Nat)) (w.setRow g (splice l off cs).toArray) := by
  have hl := run_loadCells_list (P := P) w ad cs hsrc
  have hst := run_storeCells_at P g off T cs 0 l.toArray w hg (by simpa using hfit) h1
  simp only [Nat.add_zero] at hst
  have e : (l.toArray.toList.take off ++ cs ++ l.toArray.toList.drop (off + cs.length)).toArray = (splice l off cs).toArray := by simp [splice]
  rw [e] at hst
  obtain ⟨i, hi1, hi2⟩ := Option.map_eq_some_iff.1 hs
  simp [Builtin.copy_, run_underlying hu, Builtin.lenOf, Builtin.firstCells, sizeOf, typeInfo, hi1, hi2, ← hn, hl, hst]

theorem O_copy (d s : Operand) (dT sT : TypeId) (ho : o.op = .call { callee := .builtin .copy, args := #[d, s], argTypes := #[dT, sT] })
    (elem : TypeId) (hu : P.underlying dT = some (.slice elem)) (size : Nat) (hs : (P.info? elem).map (·.size) = some size) (g off dLen dCap : Nat) (ad : Addr) (sLen sCap : Nat)
    (hd : a.eval d = .slice (some ⟨g, off, none⟩) dLen dCap) (hsv : a.eval s = .slice (some ad) sLen sCap) (T : TypeId) (l : List Value) (hg : Blk w g T l) (cs : List Value) (hn : cs.length = Nat.min sLen dLen * size)
    (hsrc : ∀ j v, cs[j]? = some v → w.cell? (ad.add j) = some v) (hfit : off + cs.length ≤ l.length) (h1 : ∀ v ∈ cs, v.oneCell' = true)
    (h : ∀ w', Blk w' g T (splice l off cs) → Wrote w w' g → K (a.put o.dst (goInt (Nat.min sLen dLen : Nat))) w') : Oper.wp P o a w K Q := by
  have hrun := run_copy_blk (P := P) dT sT o.type elem size g off dLen dCap ad sLen sCap hu hs hg hn hsrc hfit h1
  unfold Oper.wp
  simp [execOp, ho, resolve, invoke, builtin, hd, hsv, hrun, Result.andThen]
  exact h _ (hg.setRow _) (wrote_setRow _)

theorem L_copy (hgd : Region.wanted o (yielded ops a.tmps) = true) (d s : Operand) (dT sT : TypeId) (ho : o.op = .call { callee := .builtin .copy, args := #[d, s], argTypes := #[dT, sT] })
    (elem : TypeId) (hu : P.underlying dT = some (.slice elem)) (size : Nat) (hs : (P.info? elem).map (·.size) = some size) (g off dLen dCap : Nat) (ad : Addr) (sLen sCap : Nat)
    (hd : a.eval d = .slice (some ⟨g, off, none⟩) dLen dCap) (hsv : a.eval s = .slice (some ad) sLen sCap) (T : TypeId) (l : List Value) (hg : Blk w g T l) (cs : List Value) (hn : cs.length = Nat.min sLen dLen * size)
    (hsrc : ∀ j v, cs[j]? = some v → w.cell? (ad.add j) = some v) (hfit : off + cs.length ≤ l.length) (h1 : ∀ v ∈ cs, v.oneCell' = true)
    (h : ∀ w', Blk w' g T (splice l off cs) → Wrote w w' g → wpList P ops Q rest (a.put o.dst (goInt (Nat.min sLen dLen : Nat))) w') : wpList P ops Q (o :: rest) a w :=
  wpList_want hgd fun _ hK => O_copy d s dT sT ho elem hu size hs g off dLen dCap ad sLen sCap hd hsv T l hg cs hn hsrc hfit h1 (fun w' h0 h1 => hK _ _ (h w' h0 h1))

end
end Go.Proofs.Ytpkhomfblilkhaa.E
