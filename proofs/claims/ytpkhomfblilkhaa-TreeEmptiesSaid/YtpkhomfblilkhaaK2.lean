/- Laws of no program: memory known as a list of whole blocks, carried from operation to operation; the operations over it. Conditions: what each names. -/
import Derived.Test.YtpkhomfblilkhaaK1
namespace Go.Proofs.Ytpkhomfblilkhaa.E
set_option linter.all false
open Go Go.RowKit

/-! ### What a program tells of its types -/
class TySz (P : Program) (T : TypeId) (n : outParam Nat) : Prop where out : (P.info? T).map (·.size) = some n
class TyRow (P : Program) (T : TypeId) : Prop where out : (P.underlying T).map (·.isRow) = some true
class TyOne (P : Program) (T : TypeId) : Prop where out : (P.underlying T).map (·.isRow) = some false
class TyZ (P : Program) (T : TypeId) (l : outParam (List Value)) : Prop where out : (P.info? T).map (fun i => i.zero.map (·.cells.toList)) = some (some l)
class TySl (P : Program) (T : TypeId) (e : outParam TypeId) : Prop where out : P.underlying T = some (.slice e)
class TyArr (P : Program) (T : TypeId) (n : outParam Nat) (e : outParam TypeId) : Prop where out : P.underlying T = some (.array n e)

/-! ### What the lists tell -/
class Part (l : List Value) (off n : Nat) (cs : outParam (List Value)) : Prop where
  out : (l.drop off).take n = cs
  fit : off + n ≤ l.length
class At (l : List Value) (off : Nat) (v : outParam Value) : Prop where out : l[off]? = some v
class Spl (l : List Value) (off n : Nat) (cs : List Value) (l' : outParam (List Value)) : Prop where
  out : splice l off cs = l'
  fit : off + n ≤ l.length
  len : cs.length = n
class Put (l : List Value) (off : Nat) (v : Value) (l' : outParam (List Value)) : Prop where
  out : l.set off v = l'
  fit : off < l.length
class Ones (cs : List Value) : Prop where out : ∀ v ∈ cs, v.oneCell' = true
class CellsOf (v : Value) (l : outParam (List Value)) : Prop where out : v.cells.toList = l
instance : Ones [] := ⟨by simp⟩
instance {k n l} [h : Ones l] : Ones (.int k n :: l) := ⟨by simpa [Value.oneCell'] using h.out⟩
instance {k l} [h : Ones l] : Ones (.bool k :: l) := ⟨by simpa [Value.oneCell'] using h.out⟩
instance {k l} [h : Ones l] : Ones (.string k :: l) := ⟨by simpa [Value.oneCell'] using h.out⟩
instance {k l} [h : Ones l] : Ones (.pointer k :: l) := ⟨by simpa [Value.oneCell'] using h.out⟩
instance {a n c l} [h : Ones l] : Ones (.slice a n c :: l) := ⟨by simpa [Value.oneCell'] using h.out⟩
instance {t v l} [h : Ones l] : Ones (.iface t v :: l) := ⟨by simpa [Value.oneCell'] using h.out⟩
instance {l} [h : Ones l] : Ones (.nilIface :: l) := ⟨by simpa [Value.oneCell'] using h.out⟩
instance {f a c l} [h : Ones l] : Ones (.func f a c :: l) := ⟨by simpa [Value.oneCell'] using h.out⟩
instance {l} [h : Ones l] : Ones (.nilFunc :: l) := ⟨by simpa [Value.oneCell'] using h.out⟩
instance {a b} [h : Ones a] [k : Ones b] : Ones (a ++ b) := ⟨fun v hv => (List.mem_append.1 hv).elim (h.out v) (k.out v)⟩
instance {l : List Value} : CellsOf (.agg l.toArray) l := ⟨rfl⟩
instance {k n} : CellsOf (.int k n) [.int k n] := ⟨rfl⟩
instance {k} : CellsOf (.bool k) [.bool k] := ⟨rfl⟩
instance {k} : CellsOf (.string k) [.string k] := ⟨rfl⟩
instance {k} : CellsOf (.pointer k) [.pointer k] := ⟨rfl⟩
instance {a n c} : CellsOf (.slice a n c) [.slice a n c] := ⟨rfl⟩
instance {t v} : CellsOf (.iface t v) [.iface t v] := ⟨rfl⟩
instance : CellsOf .nilIface [.nilIface] := ⟨rfl⟩
instance {f a c} : CellsOf (.func f a c) [.func f a c] := ⟨rfl⟩
instance : CellsOf .nilFunc [.nilFunc] := ⟨rfl⟩
instance {v : Value} {l : List Value} : At (v :: l) 0 v := ⟨rfl⟩
instance {x v : Value} {l : List Value} {n : Nat} [h : At l n v] : At (x :: l) (n + 1) v := ⟨h.out⟩
instance {x v : Value} {l : List Value} : Put (x :: l) 0 v (v :: l) := ⟨rfl, by simp⟩
instance {x v : Value} {l l' : List Value} {n : Nat} [h : Put l n v l'] : Put (x :: l) (n + 1) v (x :: l') := ⟨by simp [h.out], by simpa using h.fit⟩

class LenV (l : List Value) (n : outParam Nat) : Prop where out : l.length = n
instance : LenV [] 0 := ⟨rfl⟩
instance {x l n} [h : LenV l n] : LenV (x :: l) (n + 1) := ⟨by simp [h.out]⟩
instance {l n} [h : LenV l n] : Part l 0 n l := ⟨by rw [List.drop_zero, List.take_of_length_le (Nat.le_of_eq h.out)], by simp [h.out]⟩

/-! ### Memory -/
abbrev Mem := List (Nat × TypeId × List Value)
class Has (L : Mem) (b : Nat) (T : outParam TypeId) (l : outParam (List Value)) : Prop where out : (b, T, l) ∈ L
class Upd (L : Mem) (b : Nat) (T : outParam TypeId) (l : outParam (List Value)) (l' : List Value) (L' : outParam Mem) : Prop where
  out : ∃ pre post, L = pre ++ (b, T, l) :: post ∧ L' = pre ++ (b, T, l') :: post
instance {x L b T l} [h : Has L b T l] : Has (x :: L) b T l := ⟨.tail _ h.out⟩
instance {L b T l} : Has ((b, T, l) :: L) b T l := ⟨.head _⟩
instance {x L b T l l' L'} [h : Upd L b T l l' L'] : Upd (x :: L) b T l l' (x :: L') := ⟨by
  obtain ⟨p, q, rfl, rfl⟩ := h.out; exact ⟨x :: p, q, rfl, rfl⟩⟩
instance {L b T l l'} : Upd ((b, T, l) :: L) b T l l' ((b, T, l') :: L) := ⟨[], L, rfl, rfl⟩

/-- Of what stood in w0, but for the blocks in F, nothing has turned. -/
structure Only (F : Nat → Prop) (w0 w : World) : Prop where
  os : w.os = w0.os
  tape : w.tape = w0.tape
  output : w.output = w0.output
  size : w0.heap.size ≤ w.heap.size
  block : ∀ k, k < w0.heap.size → ¬ F k → w.heap[k]? = w0.heap[k]?
def Nil : Nat → Prop := fun _ => False
theorem Only.refl (F : Nat → Prop) (w : World) : Only F w w := ⟨rfl, rfl, rfl, Nat.le_refl _, fun _ _ _ => rfl⟩
theorem Only.below {w0 w : World} (h : Only Nil w0 w) : Below w0.heap.size w0 w := ⟨h.os, h.tape, h.output, h.size, fun k hk => h.block k hk id⟩
theorem Only.of_below {F : Nat → Prop} {w0 w : World} (h : Below w0.heap.size w0 w) : Only F w0 w := ⟨h.os, h.tape, h.output, h.size, fun k hk _ => h.block k hk⟩
theorem Only.trans {F : Nat → Prop} {a b c : World} (h : Only F a b) (k : Only F b c) : Only F a c :=
  ⟨k.os.trans h.os, k.tape.trans h.tape, k.output.trans h.output, Nat.le_trans h.size k.size, fun i hi hf => (k.block i (Nat.lt_of_lt_of_le hi h.size) hf).trans (h.block i hi hf)⟩
theorem Only.step {F : Nat → Prop} {w0 w w' : World} (h : Only F w0 w) (h1 : w'.os = w.os) (h2 : w'.tape = w.tape) (h3 : w'.output = w.output) (h4 : w.heap.size ≤ w'.heap.size) (h5 : ∀ k, k < w0.heap.size → ¬ F k → w'.heap[k]? = w.heap[k]?) : Only F w0 w' :=
  ⟨h1.trans h.os, h2.trans h.tape, h3.trans h.output, Nat.le_trans h.size h4, fun i hi hf => (h5 i hi hf).trans (h.block i hi hf)⟩
theorem Only.mono {F G : Nat → Prop} {w0 w : World} (h : Only F w0 w) (hfg : ∀ k, k < w0.heap.size → F k → G k) : Only G w0 w :=
  ⟨h.os, h.tape, h.output, h.size, fun k hk hg => h.block k hk (fun hf => hg (hfg k hk hf))⟩

/-- Since w0 only blocks of F and new ones were written; the blocks of L (of F, or new) are known whole. -/
structure Kn (F : Nat → Prop) (w0 w : World) (L : Mem) : Prop where
  only : Only F w0 w
  blk : ∀ x ∈ L, Blk w x.1 x.2.1 x.2.2
  own : ∀ x ∈ L, x.1 < w0.heap.size → F x.1
  nd : (L.map (·.1)).Nodup
theorem Kn.start (F : Nat → Prop) (w : World) : Kn F w w [] := ⟨Only.refl _ _, by simp, by simp, by simp⟩
theorem Kn.begin {P : Program} {f : FuncId} {args : Array Value} {w : World} {E : Ending → World → Prop} (h : ∀ w0, Kn Nil w0 w [] → Calls P f args w fun e w' => E e w' ∧ Below w0.heap.size w0 w') : Calls P f args w fun e w' => E e w' ∧ Below w.heap.size w w' := h w (Kn.start _ _)
theorem Kn.below {w0 w : World} {L : Mem} (h : Kn Nil w0 w L) : Below w0.heap.size w0 w := h.only.below
section
variable {F : Nat → Prop} {w0 w : World} {L : Mem} (hK : Kn F w0 w L)
include hK
theorem Kn.has {b T l} [h : Has L b T l] : Blk w b T l := hK.blk _ h.out
theorem Kn.drewN (n : Nat) : Kn F w0 (w.drewN n) L :=
  ⟨hK.only.trans ⟨rfl, rfl, rfl, Nat.le_refl _, fun _ _ _ => rfl⟩, fun x hx => (hK.blk x hx).drawn ⟨n, rfl⟩, hK.own, hK.nd⟩
theorem Kn.drew : Kn F w0 w.drew L := hK.drewN 1
theorem Kn.drawn {w' : World} (h : Drawn w w') : Kn F w0 w' L := by obtain ⟨n, rfl⟩ := h; exact hK.drewN n
theorem Kn.lt {x} (hx : x ∈ L) : x.1 < w.heap.size := (hK.blk x hx).lt
/-- A call that turns nothing that stood. -/
theorem Kn.call {w' : World} (h : Below w.heap.size w w') : Kn F w0 w' L :=
  ⟨hK.only.trans (.of_below h), fun x hx => (hK.blk x hx).below h (hK.lt hx), hK.own, hK.nd⟩
/-- A new block. -/
theorem Kn.made {w' : World} {T l} (h : Made w w' T l) : Kn F w0 w' ((w.heap.size, T, l) :: L) :=
  ⟨hK.only.trans ⟨h.os, h.tape, h.output, by rw [h.size]; omega, fun k hk _ => h.old k hk⟩,
    fun x hx => by
      rcases List.mem_cons.1 hx with rfl | hx
      · exact h.new
      · exact (hK.blk x hx).made h,
    fun x hx hlt => by
      rcases List.mem_cons.1 hx with rfl | hx
      · exact absurd hlt (Nat.not_lt.2 hK.only.size)
      · exact hK.own x hx hlt,
    by
      rw [List.map_cons, List.nodup_cons]
      refine ⟨fun hm => ?_, hK.nd⟩
      obtain ⟨x, hx, he⟩ := List.mem_map.1 hm
      have := hK.lt hx
      simp only at he
      omega⟩
theorem Kn.wrote {w' : World} {b T l l' L'} [hu : Upd L b T l l' L'] (h : Wrote w w' b) (hb : Blk w' b T l') : Kn F w0 w' L' := by
  obtain ⟨p, q, rfl, rfl⟩ := hu.out
  have hn := hK.nd
  rw [List.map_append, List.map_cons, List.nodup_append] at hn
  obtain ⟨_, hn2, hn3⟩ := hn
  rw [List.nodup_cons] at hn2
  have hne : ∀ x ∈ p ++ (b, T, l') :: q, x = (b, T, l') ∨ (x.1 ≠ b ∧ x ∈ p ++ (b, T, l) :: q) := by
    intro x hx
    rcases List.mem_append.1 hx with hx | hx
    · refine .inr ⟨fun e => ?_, List.mem_append_left _ hx⟩
      exact hn3 x.1 (List.mem_map.2 ⟨x, hx, rfl⟩) b (List.mem_cons_self ..) e
    · rcases List.mem_cons.1 hx with rfl | hx
      · exact .inl rfl
      · refine .inr ⟨fun e => hn2.1 (List.mem_map.2 ⟨x, hx, e⟩), List.mem_append_right _ (List.mem_cons_of_mem _ hx)⟩
  have hown : b < w0.heap.size → F b := hK.own (b, T, l) (List.mem_append_right _ (List.mem_cons_self ..))
  refine ⟨hK.only.step h.os h.tape h.output (by rw [h.size]; exact Nat.le_refl _) (fun k hk hf => h.block k (fun e => hf (by subst e; exact hown hk))), ?_, ?_, ?_⟩
  · intro x hx
    rcases hne x hx with rfl | ⟨h1, h2⟩
    · exact hb
    · exact (hK.blk x h2).wrote h h1
  · intro x hx
    rcases hne x hx with rfl | ⟨h1, h2⟩
    · exact hown
    · exact hK.own x h2
  · simpa using hK.nd
/-- What is no longer asked for. -/
theorem Kn.sub {L' : Mem} (h : L'.Sublist L) : Kn F w0 w L' :=
  ⟨hK.only, fun x hx => hK.blk x (h.subset hx), fun x hx => hK.own x (h.subset hx), (h.map _).nodup hK.nd⟩
theorem Kn.tl {x} {L' : Mem} (h : L = x :: L') : Kn F w0 w L' := hK.sub (h ▸ List.sublist_cons_self _ _)
theorem Kn.nil : Kn F w0 w [] := hK.sub (List.nil_sublist _)
end
/-- A block's number gets a name. -/
theorem Kn.n0 {F : Nat → Prop} {w0 w : World} {b : Nat} {T : TypeId} {l : List Value} {L : Mem} (_ : Kn F w0 w ((b, T, l) :: L)) : ∃ c, c = b := ⟨_, rfl⟩
theorem Kn.n1 {F : Nat → Prop} {w0 w : World} {b : Nat} {T : TypeId} {l : List Value} {x0 : Nat × TypeId × List Value} {L : Mem} (_ : Kn F w0 w (x0 :: (b, T, l) :: L)) : ∃ c, c = b := ⟨_, rfl⟩
theorem Kn.n2 {F : Nat → Prop} {w0 w : World} {b : Nat} {T : TypeId} {l : List Value} {x0 x1 : Nat × TypeId × List Value} {L : Mem} (_ : Kn F w0 w (x0 :: x1 :: (b, T, l) :: L)) : ∃ c, c = b := ⟨_, rfl⟩
theorem Kn.n3 {F : Nat → Prop} {w0 w : World} {b : Nat} {T : TypeId} {l : List Value} {x0 x1 x2 : Nat × TypeId × List Value} {L : Mem} (_ : Kn F w0 w (x0 :: x1 :: x2 :: (b, T, l) :: L)) : ∃ c, c = b := ⟨_, rfl⟩
theorem Kn.n4 {F : Nat → Prop} {w0 w : World} {b : Nat} {T : TypeId} {l : List Value} {x0 x1 x2 x3 : Nat × TypeId × List Value} {L : Mem} (_ : Kn F w0 w (x0 :: x1 :: x2 :: x3 :: (b, T, l) :: L)) : ∃ c, c = b := ⟨_, rfl⟩
theorem Kn.n5 {F : Nat → Prop} {w0 w : World} {b : Nat} {T : TypeId} {l : List Value} {x0 x1 x2 x3 x4 : Nat × TypeId × List Value} {L : Mem} (_ : Kn F w0 w (x0 :: x1 :: x2 :: x3 :: x4 :: (b, T, l) :: L)) : ∃ c, c = b := ⟨_, rfl⟩
theorem Kn.n6 {F : Nat → Prop} {w0 w : World} {b : Nat} {T : TypeId} {l : List Value} {x0 x1 x2 x3 x4 x5 : Nat × TypeId × List Value} {L : Mem} (_ : Kn F w0 w (x0 :: x1 :: x2 :: x3 :: x4 :: x5 :: (b, T, l) :: L)) : ∃ c, c = b := ⟨_, rfl⟩
theorem Kn.n7 {F : Nat → Prop} {w0 w : World} {b : Nat} {T : TypeId} {l : List Value} {x0 x1 x2 x3 x4 x5 x6 : Nat × TypeId × List Value} {L : Mem} (_ : Kn F w0 w (x0 :: x1 :: x2 :: x3 :: x4 :: x5 :: x6 :: (b, T, l) :: L)) : ∃ c, c = b := ⟨_, rfl⟩
theorem Kn.n8 {F : Nat → Prop} {w0 w : World} {b : Nat} {T : TypeId} {l : List Value} {x0 x1 x2 x3 x4 x5 x6 x7 : Nat × TypeId × List Value} {L : Mem} (_ : Kn F w0 w (x0 :: x1 :: x2 :: x3 :: x4 :: x5 :: x6 :: x7 :: (b, T, l) :: L)) : ∃ c, c = b := ⟨_, rfl⟩
theorem Kn.n9 {F : Nat → Prop} {w0 w : World} {b : Nat} {T : TypeId} {l : List Value} {x0 x1 x2 x3 x4 x5 x6 x7 x8 : Nat × TypeId × List Value} {L : Mem} (_ : Kn F w0 w (x0 :: x1 :: x2 :: x3 :: x4 :: x5 :: x6 :: x7 :: x8 :: (b, T, l) :: L)) : ∃ c, c = b := ⟨_, rfl⟩

section
variable {P : Program} {ops : Array Oper} {rest : List Oper} {o : Oper} {a : Act} {w : World} {Q : Exit → Act → World → Prop} {K : Act → World → Prop} {F : Nat → Prop} {w0 : World} {L : Mem}
theorem isRow_of {T : TypeId} (h : TyRow P T) : ∃ d, P.underlying T = some d ∧ d.isRow = true := Option.map_eq_some_iff.1 h.out
theorem isOne_of {T : TypeId} (h : TyOne P T) : ∃ d, P.underlying T = some d ∧ d.isRow = false := Option.map_eq_some_iff.1 h.out
theorem zero_of {T : TypeId} {l : List Value} (h : TyZ P T l) : ∃ z, (P.info? T).map (·.zero) = some (some z) ∧ z.cells.toList = l := by
  obtain ⟨i, hi, h1⟩ := Option.map_eq_some_iff.1 h.out
  obtain ⟨z, hz, h2⟩ := Option.map_eq_some_iff.1 h1
  exact ⟨z, by rw [hi, ← hz]; rfl, h2⟩

theorem KO_alloc (hK : Kn F w0 w L) (T : TypeId) (ho : o.op = .alloc T) {z : List Value} [hz : TyZ P T z]
    (h : ∀ b w', Kn F w0 w' ((b, T, z) :: L) → K (a.put o.dst (.pointer (some ⟨b, 0, none⟩))) w') : Oper.wp P o a w K Q := by
  obtain ⟨v, hv, rfl⟩ := zero_of hz
  exact O_alloc T ho v hv fun w' hm => h _ w' (hK.made hm)
theorem KO_box (hK : Kn F w0 w L) (T : TypeId) (x : Operand) (ho : o.op = .box T x) (v : Value) (hx : a.eval x = v) {l : List Value} [hl : CellsOf v l]
    (h : ∀ b w', Kn F w0 w' ((b, T, l) :: L) → K (a.put o.dst (.pointer (some ⟨b, 0, none⟩))) w') : Oper.wp P o a w K Q :=
  O_box T x ho v hx fun w' hm => h _ w' (hK.made (hl.out ▸ hm))
theorem KO_load (hK : Kn F w0 w L) (T : TypeId) (x : Operand) (ho : o.op = .load T x) (b off : Nat) (hx : a.eval x = .pointer (some ⟨b, off, none⟩)) {Tb : TypeId} {l cs : List Value} {n : Nat} [hb : Has L b Tb l] [ht : TyRow P T] [hn : TySz P T n]
    [hc : Part l off n cs] (h : K (a.put o.dst (.agg cs.toArray)) w) : Oper.wp P o a w K Q := by
  obtain ⟨d, hu, hd⟩ := isRow_of ht
  exact O_load T x ho b off hx Tb l hK.has n hn.out d hu hd hc.fit cs hc.out h
theorem KO_load1 (hK : Kn F w0 w L) (T : TypeId) (x : Operand) (ho : o.op = .load T x) (b off : Nat) (hx : a.eval x = .pointer (some ⟨b, off, none⟩)) {Tb : TypeId} {l : List Value} {v : Value} [hb : Has L b Tb l] [ht : TyOne P T]
    [hc : At l off v] (h : K (a.put o.dst v) w) : Oper.wp P o a w K Q := by
  obtain ⟨d, hu, hd⟩ := isOne_of ht
  exact O_load1 T x ho b off hx Tb l hK.has (isAgg_of hu hd) v hc.out h
theorem KO_store (hK : Kn F w0 w L) (T : TypeId) (x y : Operand) (ho : o.op = .store T x y) (b off : Nat) (hx : a.eval x = .pointer (some ⟨b, off, none⟩)) (cs : List Value) (hy : a.eval y = .agg cs.toArray)
    {Tb : TypeId} {l l' : List Value} {L' : Mem} {n : Nat} [hb : Has L b Tb l] [hn : TySz P T n] [hc : Spl l off n cs l'] [h1 : Ones cs] [hu : Upd L b Tb l l' L']
    (h : ∀ w', Kn F w0 w' L' → K (a.put o.dst undef) w') : Oper.wp P o a w K Q :=
  O_store T x y ho b off hx cs hy Tb l hK.has (hc.len ▸ hn.out) (hc.len ▸ hc.fit) h1.out fun w' hb' hw => h w' (hK.wrote hw (hc.out ▸ hb'))
theorem KO_store1 (hK : Kn F w0 w L) (T : TypeId) (x y : Operand) (ho : o.op = .store T x y) (b off : Nat) (hx : a.eval x = .pointer (some ⟨b, off, none⟩)) (v : Value) (hy : a.eval y = v) (hv : v.oneCell' = true)
    {Tb : TypeId} {l l' : List Value} {L' : Mem} [hb : Has L b Tb l] [hn : TySz P T 1] [hc : Put l off v l'] [hu : Upd L b Tb l l' L']
    (h : ∀ w', Kn F w0 w' L' → K (a.put o.dst undef) w') : Oper.wp P o a w K Q :=
  O_store1 T x y ho b off hx v hy hv Tb l hK.has hn.out hc.fit fun w' hb' hw => h w' (hK.wrote hw (hc.out ▸ hb'))
/-- copy out of a block known whole into another, elements of one cell. -/
theorem KO_copy (hK : Kn F w0 w L) (d s : Operand) (dT sT : TypeId) (ho : o.op = .call { callee := .builtin .copy, args := #[d, s], argTypes := #[dT, sT] }) {elem : TypeId} [hu : TySl P dT elem] {size : Nat} [hs : TySz P elem size]
    (g off dLen dCap b so sLen sCap : Nat) (hd : a.eval d = .slice (some ⟨g, off, none⟩) dLen dCap) (hsv : a.eval s = .slice (some ⟨b, so, none⟩) sLen sCap) {T Ts : TypeId} {l ls cs l' : List Value} {L' : Mem} [hg : Has L g T l] [hb : Has L b Ts ls]
    (n m : Nat) (hm : Nat.min sLen dLen = m) (hn : m * size = n) [hc : Part ls so n cs] [hp : Spl l off n cs l'] [h1 : Ones cs] [hup : Upd L g T l l' L']
    (h : ∀ w', Kn F w0 w' L' → K (a.put o.dst (.int .i64 (m : Nat))) w') : Oper.wp P o a w K Q := by
  subst hm
  have hlen : cs.length = Nat.min sLen dLen * size := hp.len.trans hn.symm
  refine O_copy d s dT sT ho elem hu.out size hs.out g off dLen dCap ⟨b, so, none⟩ sLen sCap hd hsv T l hK.has cs hlen ?_ (hp.len ▸ hp.fit) h1.out fun w' hb' hw => h w' (hK.wrote hw (hp.out ▸ hb'))
  intro j v hv
  have hj : j < cs.length := (List.getElem?_eq_some_iff.1 hv).1
  rw [Addr.add_mid, (hK.has : Blk w b Ts ls).cell, ← hv, ← hc.out, List.getElem?_take, List.getElem?_drop]
  rw [hp.len] at hj
  simp only [hj, if_true]

theorem KL_alloc (hK : Kn F w0 w L) (hgd : Region.wanted o (yielded ops a.tmps) = true) (T : TypeId) (ho : o.op = .alloc T) {z : List Value} [hz : TyZ P T z]
    (h : ∀ b w', Kn F w0 w' ((b, T, z) :: L) → wpList P ops Q rest (a.put o.dst (.pointer (some ⟨b, 0, none⟩))) w') : wpList P ops Q (o :: rest) a w :=
  wpList_want hgd fun _ hk => KO_alloc hK T ho fun b w' h' => hk _ _ (h b w' h')
theorem KL_box (hK : Kn F w0 w L) (hgd : Region.wanted o (yielded ops a.tmps) = true) (T : TypeId) (x : Operand) (ho : o.op = .box T x) (v : Value) (hx : a.eval x = v) {l : List Value} [hl : CellsOf v l]
    (h : ∀ b w', Kn F w0 w' ((b, T, l) :: L) → wpList P ops Q rest (a.put o.dst (.pointer (some ⟨b, 0, none⟩))) w') : wpList P ops Q (o :: rest) a w :=
  wpList_want hgd fun _ hk => KO_box hK T x ho v hx fun b w' h' => hk _ _ (h b w' h')
theorem KL_load (hK : Kn F w0 w L) (hgd : Region.wanted o (yielded ops a.tmps) = true) (T : TypeId) (x : Operand) (ho : o.op = .load T x) (b off : Nat) (hx : a.eval x = .pointer (some ⟨b, off, none⟩)) {Tb : TypeId} {l cs : List Value} {n : Nat} [hb : Has L b Tb l] [ht : TyRow P T] [hn : TySz P T n]
    [hc : Part l off n cs] (h : wpList P ops Q rest (a.put o.dst (.agg cs.toArray)) w) : wpList P ops Q (o :: rest) a w :=
  wpList_want hgd fun _ hk => KO_load hK T x ho b off hx (hk _ _ h)
theorem KL_load1 (hK : Kn F w0 w L) (hgd : Region.wanted o (yielded ops a.tmps) = true) (T : TypeId) (x : Operand) (ho : o.op = .load T x) (b off : Nat) (hx : a.eval x = .pointer (some ⟨b, off, none⟩)) {Tb : TypeId} {l : List Value} {v : Value} [hb : Has L b Tb l] [ht : TyOne P T]
    [hc : At l off v] (h : wpList P ops Q rest (a.put o.dst v) w) : wpList P ops Q (o :: rest) a w :=
  wpList_want hgd fun _ hk => KO_load1 hK T x ho b off hx (hk _ _ h)
theorem KL_store (hK : Kn F w0 w L) (hgd : Region.wanted o (yielded ops a.tmps) = true) (T : TypeId) (x y : Operand) (ho : o.op = .store T x y) (b off : Nat) (hx : a.eval x = .pointer (some ⟨b, off, none⟩)) (cs : List Value) (hy : a.eval y = .agg cs.toArray)
    {Tb : TypeId} {l l' : List Value} {L' : Mem} {n : Nat} [hb : Has L b Tb l] [hn : TySz P T n] [hc : Spl l off n cs l'] [h1 : Ones cs] [hu : Upd L b Tb l l' L']
    (h : ∀ w', Kn F w0 w' L' → wpList P ops Q rest (a.put o.dst undef) w') : wpList P ops Q (o :: rest) a w :=
  wpList_want hgd fun _ hk => KO_store hK T x y ho b off hx cs hy fun w' h' => hk _ _ (h w' h')
theorem KL_store1 (hK : Kn F w0 w L) (hgd : Region.wanted o (yielded ops a.tmps) = true) (T : TypeId) (x y : Operand) (ho : o.op = .store T x y) (b off : Nat) (hx : a.eval x = .pointer (some ⟨b, off, none⟩)) (v : Value) (hy : a.eval y = v) (hv : v.oneCell' = true)
    {Tb : TypeId} {l l' : List Value} {L' : Mem} [hb : Has L b Tb l] [hn : TySz P T 1] [hc : Put l off v l'] [hu : Upd L b Tb l l' L']
    (h : ∀ w', Kn F w0 w' L' → wpList P ops Q rest (a.put o.dst undef) w') : wpList P ops Q (o :: rest) a w :=
  wpList_want hgd fun _ hk => KO_store1 hK T x y ho b off hx v hy hv fun w' h' => hk _ _ (h w' h')
theorem KL_copy (hK : Kn F w0 w L) (hgd : Region.wanted o (yielded ops a.tmps) = true) (d s : Operand) (dT sT : TypeId) (ho : o.op = .call { callee := .builtin .copy, args := #[d, s], argTypes := #[dT, sT] }) {elem : TypeId} [hu : TySl P dT elem] {size : Nat} [hs : TySz P elem size]
    (g off dLen dCap b so sLen sCap : Nat) (hd : a.eval d = .slice (some ⟨g, off, none⟩) dLen dCap) (hsv : a.eval s = .slice (some ⟨b, so, none⟩) sLen sCap) {T Ts : TypeId} {l ls cs l' : List Value} {L' : Mem} [hg : Has L g T l] [hb : Has L b Ts ls]
    (n m : Nat) (hm : Nat.min sLen dLen = m) (hn : m * size = n) [hc : Part ls so n cs] [hp : Spl l off n cs l'] [h1 : Ones cs] [hup : Upd L g T l l' L']
    (h : ∀ w', Kn F w0 w' L' → wpList P ops Q rest (a.put o.dst (.int .i64 (m : Nat))) w') : wpList P ops Q (o :: rest) a w :=
  wpList_want hgd fun _ hk => KO_copy hK d s dT sT ho g off dLen dCap b so sLen sCap hd hsv n m hm hn fun w' h' => hk _ _ (h w' h')

/-! ### Aggregates by value -/
class Bld (P : Program) (T : TypeId) (vs : List (Nat × Value)) (l : outParam (List Value)) : Prop where out : ∀ w, (Instr.build T vs.toArray).run P w = .ok (.agg l.toArray) w
class Cmp (P : Program) (op : BinOp) (T : TypeId) (u v : List Value) (b : outParam Bool) : Prop where
  out : ∀ w, (binOp op T (.agg u.toArray) (.agg v.toArray)).run P w = .ok (.bool b) w
class NoIf (P : Program) (T : TypeId) : Prop where out : P.eqGuardType P.depth T = false
theorem KL_build (hgd : Region.wanted o (yielded ops a.tmps) = true) (T : TypeId) (parts : Array (Nat × Operand)) (ho : o.op = .build T parts) (vs : List (Nat × Value)) (hv : parts.toList.map (fun p => (p.1, a.eval p.2)) = vs) {l : List Value} [hb : Bld P T vs l]
    (h : wpList P ops Q rest (a.put o.dst (.agg l.toArray)) w) : wpList P ops Q (o :: rest) a w :=
  L_build hgd T parts ho vs hv l hb.out h
theorem KL_build0 (hgd : Region.wanted o (yielded ops a.tmps) = true) (T : TypeId) (ho : o.op = .build T #[]) {l : List Value} [hb : Bld P T [] l]
    (h : wpList P ops Q rest (a.put o.dst (.agg l.toArray)) w) : wpList P ops Q (o :: rest) a w :=
  L_build hgd T _ ho _ rfl l (by simp only [List.map_cons, List.map_nil]; exact hb.out) h
theorem KO_build0 (T : TypeId) (ho : o.op = .build T #[]) {l : List Value} [hb : Bld P T [] l] {S : World → Prop} : Sees P S o a (.agg l.toArray) :=
  exec_build T _ ho _ rfl (by simp only [List.map_cons, List.map_nil]; exact hb.out)
theorem KL_build1 (hgd : Region.wanted o (yielded ops a.tmps) = true) (T : TypeId) (k0 : Nat) (x0 : Operand) (ho : o.op = .build T #[(k0, x0)]) (v0 : Value) (h0 : a.eval x0 = v0) {l : List Value} [hb : Bld P T [(k0, v0)] l]
    (h : wpList P ops Q rest (a.put o.dst (.agg l.toArray)) w) : wpList P ops Q (o :: rest) a w :=
  L_build hgd T _ ho _ rfl l (by simp only [List.map_cons, List.map_nil, h0]; exact hb.out) h
theorem KO_build1 (T : TypeId) (k0 : Nat) (x0 : Operand) (ho : o.op = .build T #[(k0, x0)]) (v0 : Value) (h0 : a.eval x0 = v0) {l : List Value} [hb : Bld P T [(k0, v0)] l] {S : World → Prop} : Sees P S o a (.agg l.toArray) :=
  exec_build T _ ho _ rfl (by simp only [List.map_cons, List.map_nil, h0]; exact hb.out)
theorem KL_build2 (hgd : Region.wanted o (yielded ops a.tmps) = true) (T : TypeId) (k0 k1 : Nat) (x0 x1 : Operand) (ho : o.op = .build T #[(k0, x0), (k1, x1)]) (v0 : Value) (h0 : a.eval x0 = v0) (v1 : Value) (h1 : a.eval x1 = v1) {l : List Value} [hb : Bld P T [(k0, v0), (k1, v1)] l]
    (h : wpList P ops Q rest (a.put o.dst (.agg l.toArray)) w) : wpList P ops Q (o :: rest) a w :=
  L_build hgd T _ ho _ rfl l (by simp only [List.map_cons, List.map_nil, h0, h1]; exact hb.out) h
theorem KO_build2 (T : TypeId) (k0 k1 : Nat) (x0 x1 : Operand) (ho : o.op = .build T #[(k0, x0), (k1, x1)]) (v0 : Value) (h0 : a.eval x0 = v0) (v1 : Value) (h1 : a.eval x1 = v1) {l : List Value} [hb : Bld P T [(k0, v0), (k1, v1)] l] {S : World → Prop} : Sees P S o a (.agg l.toArray) :=
  exec_build T _ ho _ rfl (by simp only [List.map_cons, List.map_nil, h0, h1]; exact hb.out)
theorem KL_build3 (hgd : Region.wanted o (yielded ops a.tmps) = true) (T : TypeId) (k0 k1 k2 : Nat) (x0 x1 x2 : Operand) (ho : o.op = .build T #[(k0, x0), (k1, x1), (k2, x2)]) (v0 : Value) (h0 : a.eval x0 = v0) (v1 : Value) (h1 : a.eval x1 = v1) (v2 : Value) (h2 : a.eval x2 = v2) {l : List Value} [hb : Bld P T [(k0, v0), (k1, v1), (k2, v2)] l]
    (h : wpList P ops Q rest (a.put o.dst (.agg l.toArray)) w) : wpList P ops Q (o :: rest) a w :=
  L_build hgd T _ ho _ rfl l (by simp only [List.map_cons, List.map_nil, h0, h1, h2]; exact hb.out) h
theorem KO_build3 (T : TypeId) (k0 k1 k2 : Nat) (x0 x1 x2 : Operand) (ho : o.op = .build T #[(k0, x0), (k1, x1), (k2, x2)]) (v0 : Value) (h0 : a.eval x0 = v0) (v1 : Value) (h1 : a.eval x1 = v1) (v2 : Value) (h2 : a.eval x2 = v2) {l : List Value} [hb : Bld P T [(k0, v0), (k1, v1), (k2, v2)] l] {S : World → Prop} : Sees P S o a (.agg l.toArray) :=
  exec_build T _ ho _ rfl (by simp only [List.map_cons, List.map_nil, h0, h1, h2]; exact hb.out)
theorem KL_build4 (hgd : Region.wanted o (yielded ops a.tmps) = true) (T : TypeId) (k0 k1 k2 k3 : Nat) (x0 x1 x2 x3 : Operand) (ho : o.op = .build T #[(k0, x0), (k1, x1), (k2, x2), (k3, x3)]) (v0 : Value) (h0 : a.eval x0 = v0) (v1 : Value) (h1 : a.eval x1 = v1) (v2 : Value) (h2 : a.eval x2 = v2) (v3 : Value) (h3 : a.eval x3 = v3) {l : List Value} [hb : Bld P T [(k0, v0), (k1, v1), (k2, v2), (k3, v3)] l]
    (h : wpList P ops Q rest (a.put o.dst (.agg l.toArray)) w) : wpList P ops Q (o :: rest) a w :=
  L_build hgd T _ ho _ rfl l (by simp only [List.map_cons, List.map_nil, h0, h1, h2, h3]; exact hb.out) h
theorem KO_build4 (T : TypeId) (k0 k1 k2 k3 : Nat) (x0 x1 x2 x3 : Operand) (ho : o.op = .build T #[(k0, x0), (k1, x1), (k2, x2), (k3, x3)]) (v0 : Value) (h0 : a.eval x0 = v0) (v1 : Value) (h1 : a.eval x1 = v1) (v2 : Value) (h2 : a.eval x2 = v2) (v3 : Value) (h3 : a.eval x3 = v3) {l : List Value} [hb : Bld P T [(k0, v0), (k1, v1), (k2, v2), (k3, v3)] l] {S : World → Prop} : Sees P S o a (.agg l.toArray) :=
  exec_build T _ ho _ rfl (by simp only [List.map_cons, List.map_nil, h0, h1, h2, h3]; exact hb.out)
theorem KL_build5 (hgd : Region.wanted o (yielded ops a.tmps) = true) (T : TypeId) (k0 k1 k2 k3 k4 : Nat) (x0 x1 x2 x3 x4 : Operand) (ho : o.op = .build T #[(k0, x0), (k1, x1), (k2, x2), (k3, x3), (k4, x4)]) (v0 : Value) (h0 : a.eval x0 = v0) (v1 : Value) (h1 : a.eval x1 = v1) (v2 : Value) (h2 : a.eval x2 = v2) (v3 : Value) (h3 : a.eval x3 = v3) (v4 : Value) (h4 : a.eval x4 = v4) {l : List Value} [hb : Bld P T [(k0, v0), (k1, v1), (k2, v2), (k3, v3), (k4, v4)] l]
    (h : wpList P ops Q rest (a.put o.dst (.agg l.toArray)) w) : wpList P ops Q (o :: rest) a w :=
  L_build hgd T _ ho _ rfl l (by simp only [List.map_cons, List.map_nil, h0, h1, h2, h3, h4]; exact hb.out) h
theorem KO_build5 (T : TypeId) (k0 k1 k2 k3 k4 : Nat) (x0 x1 x2 x3 x4 : Operand) (ho : o.op = .build T #[(k0, x0), (k1, x1), (k2, x2), (k3, x3), (k4, x4)]) (v0 : Value) (h0 : a.eval x0 = v0) (v1 : Value) (h1 : a.eval x1 = v1) (v2 : Value) (h2 : a.eval x2 = v2) (v3 : Value) (h3 : a.eval x3 = v3) (v4 : Value) (h4 : a.eval x4 = v4) {l : List Value} [hb : Bld P T [(k0, v0), (k1, v1), (k2, v2), (k3, v3), (k4, v4)] l] {S : World → Prop} : Sees P S o a (.agg l.toArray) :=
  exec_build T _ ho _ rfl (by simp only [List.map_cons, List.map_nil, h0, h1, h2, h3, h4]; exact hb.out)
theorem KL_cmp (hgd : Region.wanted o (yielded ops a.tmps) = true) (op : BinOp) (T R : TypeId) (x y : Operand) (ho : o.op = .binOp op T x y R) (u v : List Value) (hx : a.eval x = .agg u.toArray) (hy : a.eval y = .agg v.toArray) [hm : NoIf P T] {b : Bool}
    [hb : Cmp P op T u v b] (h : wpList P ops Q rest (a.put o.dst (.bool b)) w) : wpList P ops Q (o :: rest) a w :=
  L_cmp hgd op T R x y ho u v hx hy hm.out b hb.out h
/-- An element of an array that is a value. -/
theorem KL_index (hgd : Region.wanted o (yielded ops a.tmps) = true) (T : TypeId) (x y : Operand) (ho : o.op = .index T x y) (cs : List Value) (hx : a.eval x = .agg cs.toArray) (k : Int) (hy : a.eval y = .int .i64 k) (m : Nat) (hm : k.toNat = m) {n : Nat} {e : TypeId} [hu : TyArr P T n e]
    [hs : TySz P e 1] [hd : TyOne P e] (h0 : 0 ≤ k) (hn : k < n) {v : Value} [hv : At cs m v] (h : wpList P ops Q rest (a.put o.dst v) w) : wpList P ops Q (o :: rest) a w := by
  obtain ⟨d, hue, hd⟩ := isOne_of hd
  exact L_index1 hgd T x y ho cs hx k hy n e hu.out hs.out d hue hd h0 hn v (hm ▸ hv.out) h
/-- A slice seen as an array. -/
theorem exec_arr (T : TypeId) (x : Operand) (ho : o.op = .sliceToArrayPointer T x) (ad : Addr) (len cap : Nat) (hx : a.eval x = .slice (some ad) len cap) {n : Nat} {e : TypeId} [hu : TyArr P T n e] (hn : n ≤ len) (w : World) :
    (execOp a.eval o).run P w = .ok (.value (.pointer (some ad))) w := by
  unfold execOp
  simp only [ho, hx]
  simp [Instr.arrayAt, run_underlying hu.out, Nat.not_lt.2 hn]
theorem KL_arr (hgd : Region.wanted o (yielded ops a.tmps) = true) (T : TypeId) (x : Operand) (ho : o.op = .sliceToArrayPointer T x) (ad : Addr) (len cap : Nat) (hx : a.eval x = .slice (some ad) len cap) {n : Nat} {e : TypeId} [hu : TyArr P T n e] (hn : n ≤ len)
    (h : wpList P ops Q rest (a.put o.dst (.pointer (some ad))) w) : wpList P ops Q (o :: rest) a w :=
  wpList_want hgd fun K hK => by
    unfold Oper.wp
    rw [exec_arr T x ho ad len cap hx hn w]
    exact hK _ _ h
theorem KS_arr {S : World → Prop} (T : TypeId) (x : Operand) (ho : o.op = .sliceToArrayPointer T x) (ad : Addr) (len cap : Nat) (hx : a.eval x = .slice (some ad) len cap) {n : Nat} {e : TypeId} [hu : TyArr P T n e] (hn : n ≤ len) : Sees P S o a (.pointer (some ad)) :=
  fun w _ => exec_arr T x ho ad len cap hx hn w
/-- A field of a struct that is a value. -/
theorem run_field {T i : Nat} {cs : List Value} {fs : Array Field} {f : Field} (hu : P.underlying T = some (.struct fs)) (hf : fs[i]? = some f) {v : Value} (hp : (part f.type cs.toArray f.offset).run P w = .ok v w) :
    (Instr.field T (.agg cs.toArray) i).run P w = .ok v w := by
  simp [Instr.field, run_underlying hu, hf, asAgg, hp]
end
end Go.Proofs.Ytpkhomfblilkhaa.E
