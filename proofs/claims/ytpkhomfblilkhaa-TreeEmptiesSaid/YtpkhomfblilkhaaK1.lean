/- Laws of no program: loads of blocks known whole in regions that draw their order; operations over blocks known whole; results in cells; equality of rows of integers. -/
import Derived.Test.YtpkhomfblilkhaaK0
import Derived.Deep.RegionHeld3
import Derived.Laws.StructEq
import Derived.OwnWalk
namespace Go.Proofs.Ytpkhomfblilkhaa.E
set_option linter.all false
open Go Go.RowKit
section
variable {P : Program} {ops : Array Oper} {o : Oper} {a : Act} {w : World} {Q : Exit → Act → World → Prop} {K : Act → World → Prop} {S : World → Prop}

/-- In every world of S operation o yields v and does nothing else. -/
def Sees (P : Program) (S : World → Prop) (o : Oper) (a : Act) (v : Value) : Prop := ∀ w, S w → (execOp a.eval o).run P w = .ok (.value v) w
theorem rg_take {md : Region.Mode} {i : Nat} {oi : Oper} {v : Value} {fuel : Nat} {listed : Array Bool} (hi : ops[i]? = some oi)
    (hs : Region.noSelect ops = true) (hf : Region.free md ops listed i = true) (hr : (Region.ready md ops listed).contains i = true)
    (hQ : ∀ c a w, Q (.panic c) (a.put oi.dst v) w → Q (.panic c) a w) (hw : Region.wanted oi (yielded ops a.tmps) = true) (hy : Sees P S oi a v) (hS : S w)
    (h : wpAnyH P md ops Q S fuel (listed.setIfInBounds i true) (a.put oi.dst v) w) : wpAnyH P md ops Q S (fuel + 1) listed a w :=
  wpAnyH_take hi hs hf hr hQ (Or.inl ⟨hw, hy⟩) hS h
theorem exec_load {cs : List Value} (T : TypeId) (x : Operand) (ho : o.op = .load T x) (b off : Nat) (hx : a.eval x = .pointer (some ⟨b, off, none⟩)) (Tb : TypeId) (l : List Value) (hb : ∀ w, S w → Blk w b Tb l)
    (n : Nat) (hi : (P.info? T).map (·.size) = some n) (d : TypeDesc) (hu : P.underlying T = some d) (hd : d.isRow = true) (hfit : off + n ≤ l.length) (hcs : (l.drop off).take n = cs) : Sees P S o a (.agg cs.toArray) := fun w hS => by
  subst hcs
  unfold execOp
  simp only [ho, hx, Sem.run_bind, run_load_blk (hb w hS) hi hu hd hfit, Result.andThen_ok, Sem.run_pure]

theorem exec_load1 {v : Value} (T : TypeId) (x : Operand) (ho : o.op = .load T x) (b off : Nat) (hx : a.eval x = .pointer (some ⟨b, off, none⟩)) (Tb : TypeId) (l : List Value) (hb : ∀ w, S w → Blk w b Tb l)
    (ha : ∀ w, (isAgg T).run P w = .ok false w) (hv : l[off]? = some v) : Sees P S o a v := fun w hS => by
  have hc : w.cell? ⟨b, off, none⟩ = some v := by rw [(hb w hS).cell]; exact hv
  unfold execOp
  simp only [ho, hx]
  simp [Instr.loadAt, Instr.sureAddr, loadVar, ha, hc]

theorem isAgg_of {T : TypeId} {d : TypeDesc} (hu : P.underlying T = some d) (hd : d.isRow = false) (w : World) : (isAgg T).run P w = .ok false w := by
  cases d <;> simp_all [isAgg, run_underlying hu, TypeDesc.isRow]
theorem exec_load1' {v : Value} (T : TypeId) (x : Operand) (ho : o.op = .load T x) (b off : Nat) (hx : a.eval x = .pointer (some ⟨b, off, none⟩)) (Tb : TypeId) (l : List Value) (hb : ∀ w, S w → Blk w b Tb l)
    (d : TypeDesc) (hu : P.underlying T = some d) (hd : d.isRow = false) (hv : l[off]? = some v) : Sees P S o a v :=
  exec_load1 T x ho b off hx Tb l hb (isAgg_of hu hd) hv
theorem exec_build {l : List Value} (T : TypeId) (parts : Array (Nat × Operand)) (ho : o.op = .build T parts) (vs : List (Nat × Value)) (hv : parts.toList.map (fun p => (p.1, a.eval p.2)) = vs) (hb : ∀ w, (Instr.build T vs.toArray).run P w = .ok (.agg l.toArray) w) : Sees P S o a (.agg l.toArray) := fun w _ => by
  have hv' : parts.map (fun (i, x) => (i, a.eval x)) = vs.toArray := by rw [← hv]; apply Array.ext'; simp
  unfold execOp
  simp only [ho, hv', Sem.run_bind, hb, Result.andThen_ok, Sem.run_pure]
end
/-! ### Rows of integers: their equality -/
/-- The integer kinds of a type's cells. -/
def fieldKinds (F : TypeId → Option (List IntKind)) : Nat → List Field → Option (List IntKind)
  | _, [] => some []
  | off, f :: fs => if f.offset = off ∧ f.name ≠ "_" then (F f.type).bind fun ks => (fieldKinds F (off + ks.length) fs).map (ks ++ ·) else none
def flatKinds (P : Program) : Nat → TypeId → Option (List IntKind)
  | 0, _ => none
  | D + 1, t => match P.underlying t with
    | some (.int k) => some [k]
    | some (.array n e) => (flatKinds P D e).bind fun ks => if (P.info? e).map (·.size) = some ks.length then some (List.replicate n ks).flatten else none
    | some (.struct fs) => if P.stoodInHeld t = false ∧ fs.toList.all (fun f => (flatKinds P D f.type).map (·.length) == (P.info? f.type).map (·.size)) then fieldKinds (flatKinds P D) 0 fs.toList else none
    | _ => none
def asVal (P : Program) (t : TypeId) (cs : List Value) : Value := match P.underlying t with
  | some (.int _) => cs.headD undef
  | _ => .agg cs.toArray

theorem fieldKinds_some {F : TypeId → Option (List IntKind)} {off : Nat} {f : Field} {fs : List Field} {ks : List IntKind} (h : fieldKinds F off (f :: fs) = some ks) :
    f.offset = off ∧ f.name ≠ "_" ∧ ∃ k1 k2, F f.type = some k1 ∧ fieldKinds F (off + k1.length) fs = some k2 ∧ ks = k1 ++ k2 := by
  unfold fieldKinds at h
  split at h
  · rename_i h1
    simp only [Option.bind_eq_some_iff, Option.map_eq_some_iff] at h
    obtain ⟨k1, h2, k2, h3, h4⟩ := h
    exact ⟨h1.1, h1.2, k1, k2, h2, h3, h4.symm⟩
  · cases h

theorem zip_drop {ks : List IntKind} {xs : List Int} (n : Nat) : (List.zipWith Value.int ks xs).drop n = List.zipWith Value.int (ks.drop n) (xs.drop n) := by
  simp [List.drop_zipWith]
theorem zip_take {ks : List IntKind} {xs : List Int} (n : Nat) : (List.zipWith Value.int ks xs).take n = List.zipWith Value.int (ks.take n) (xs.take n) := by
  simp [List.take_zipWith]

section
variable {P : Program}

/-- A part of a row of integers. -/
theorem run_part_flat {D : Nat} {e : TypeId} {k : List IntKind} (hk : flatKinds P D e = some k) (hs : (P.info? e).map (·.size) = some k.length) {l : List Value} {off : Nat} (hfit : off + k.length ≤ l.length) (w : World) :
    (part e l.toArray off).run P w = .ok (asVal P e ((l.drop off).take k.length)) w := by
  cases D with
  | zero => simp [flatKinds] at hk
  | succ D =>
    obtain ⟨i, hi1, hi2⟩ := Option.map_eq_some_iff.1 hs
    unfold flatKinds at hk
    unfold asVal
    split at hk
    · rename_i k' hu
      obtain rfl := Option.some.inj hk
      have : off < l.length := by simp at hfit; omega
      simp [part, isAgg, run_underlying hu, hu, List.headD_eq_head?_getD, List.getElem?_eq_getElem this]
      rw [List.head?_take]; simp [List.getElem?_eq_getElem this]
    · rename_i n e' hu
      simp [part, isAgg, run_underlying hu, hu, sizeOf, typeInfo, hi1, hi2, List.extract]
    · rename_i fs hu
      simp [part, isAgg, run_underlying hu, hu, sizeOf, typeInfo, hi1, hi2, List.extract]
    · cases hk

def FlatEq (P : Program) (dd : Nat) (t : TypeId) (ks : List IntKind) : Prop := ∀ (w : World) (a b : List Int), a.length = ks.length → b.length = ks.length →
  (Op.equalIn dd t (asVal P t (List.zipWith .int ks a)) (asVal P t (List.zipWith .int ks b))).run P w = .ok (a == b) w

theorem beq_parts (a b : List Int) (n m : Nat) : ((a.drop m) == (b.drop m)) = (((a.drop m).take n == (b.drop m).take n) && (a.drop (m + n) == b.drop (m + n))) := by
  rw [Bool.eq_iff_iff]
  simp only [beq_iff_eq, Bool.and_eq_true]
  constructor
  · intro h
    refine ⟨by rw [h], ?_⟩
    rw [← List.drop_drop, ← List.drop_drop, h]
  · rintro ⟨h1, h2⟩
    rw [← List.take_append_drop n (a.drop m), ← List.take_append_drop n (b.drop m), h1, List.drop_drop, List.drop_drop, h2]

theorem run_fields_flat (dd : Nat) (F : TypeId → Option (List IntKind)) (D : Nat) (hF : F = flatKinds P D) (IH : ∀ e k, F e = some k → FlatEq P dd e k) (w : World) (K : List IntKind) (A B : List Int) (hA : A.length = K.length) (hB : B.length = K.length) :
    ∀ (fs : List Field) (off : Nat) (ks : List IntKind), fieldKinds F off fs = some ks → fs.all (fun f => (F f.type).map (·.length) == (P.info? f.type).map (·.size)) = true → off ≤ K.length → K.drop off = ks →
    (Op.eqFields dd (List.zipWith Value.int K A).toArray (List.zipWith Value.int K B).toArray fs).run P w = .ok (A.drop off == B.drop off) w
  | [], off, ks, h, _, _, hd => by
    obtain rfl := Option.some.inj h
    have hl : K.length ≤ off := List.drop_eq_nil_iff.1 hd
    rw [List.drop_eq_nil_of_le (by omega : A.length ≤ off), List.drop_eq_nil_of_le (by omega : B.length ≤ off)]
    rfl
  | f :: fs, off, ks, h, hs, ho, hd => by
    obtain ⟨rfl, hn, k1, k2, h1, h2, rfl⟩ := fieldKinds_some h
    rw [List.all_cons, Bool.and_eq_true] at hs
    have hsz : (P.info? f.type).map (·.size) = some k1.length := by
      have := hs.1; rw [h1] at this; exact (beq_iff_eq.1 this).symm
    have hfit : f.offset + k1.length ≤ K.length := by
      have := congrArg List.length hd; simp at this; omega
    have hK1 : (K.drop f.offset).take k1.length = k1 := by rw [hd, List.take_left]
    have hK2 : K.drop (f.offset + k1.length) = k2 := by rw [← List.drop_drop, hd, List.drop_left]
    have pa := run_part_flat (hF ▸ h1) hsz (l := List.zipWith Value.int K A) (off := f.offset) (by simp; omega) w
    have pb := run_part_flat (hF ▸ h1) hsz (l := List.zipWith Value.int K B) (off := f.offset) (by simp; omega) w
    rw [zip_drop, zip_take, hK1] at pa pb
    have pe := IH _ _ h1 w ((A.drop f.offset).take k1.length) ((B.drop f.offset).take k1.length) (by simp; omega) (by simp; omega)
    have ih := run_fields_flat dd F D hF IH w K A B hA hB fs (f.offset + k1.length) k2 h2 hs.2 hfit hK2
    rw [beq_parts A B k1.length f.offset]
    simp only [Op.eqFields, hn, ne_eq, not_false_eq_true, if_true, Sem.run_bind, pa, pb, pe, Result.andThen_ok]
    cases hb : ((A.drop f.offset).take k1.length == (B.drop f.offset).take k1.length)
    · simp
    · simpa using ih

theorem flat_len_replicate {α : Type} (n : Nat) (l : List α) : ((List.replicate n l).flatten).length = n * l.length := by simp
theorem flat_drop_replicate {α : Type} (l : List α) : ∀ (n i : Nat), i < n → (((List.replicate n l).flatten).drop (i * l.length)).take l.length = l
  | 0, _, h => by omega
  | n + 1, 0, _ => by simp [List.replicate_succ]
  | n + 1, i + 1, h => by
    have := flat_drop_replicate l n i (by omega)
    rw [List.replicate_succ, List.flatten_cons, Nat.add_mul, Nat.one_mul, Nat.add_comm (i * _), ← List.drop_drop, List.drop_left]
    exact this

theorem run_equalIn_flat (d : Nat) : ∀ (D : Nat) (t : TypeId) (ks : List IntKind), flatKinds P D t = some ks → FlatEq P (d + D) t ks
  | 0, _, _, h => by simp [flatKinds] at h
  | D + 1, t, ks, h => fun w A B hA hB => by
    have IH := run_equalIn_flat d D
    unfold flatKinds at h
    unfold asVal
    split at h
    · rename_i k hu
      obtain rfl := Option.some.inj h
      match A, B, hA, hB with
      | [x], [y], _, _ =>
        simp only [hu, List.zipWith_cons_cons, List.headD_cons]
        rw [show d + (D + 1) = (d + D) + 1 by omega, run_equalIn_int w (d + D) t k k x y hu]
        simp
    · rename_i n e hu
      simp only [Option.bind_eq_some_iff] at h
      obtain ⟨k, hk, h2⟩ := h
      split at h2
      rotate_left
      · cases h2
      rename_i hs
      obtain rfl := Option.some.inj h2
      obtain ⟨i, hi1, hi2⟩ := Option.map_eq_some_iff.1 hs
      simp only [hu]
      rw [show d + (D + 1) = (d + D) + 1 by omega, Op.equalIn]
      simp only [Sem.run_bind, run_underlying hu, Result.andThen_ok, sizeOf, typeInfo, run_program, hi1, Sem.run_pure, hi2, Std.Legacy.Range.forIn_eq_forIn_range', Std.Legacy.Range.size, Nat.sub_zero, Nat.add_sub_cancel, Nat.div_one]
      generalize hKK : (List.replicate n k).flatten = K at hA hB ⊢
      have hKl : K.length = n * k.length := by rw [← hKK]; exact flat_len_replicate n k
      have go : ∀ (m i : Nat), i + m = n → ((forIn (List.range' i m 1) ((none, ()) : Option Bool × Unit) fun i _ => do
          let x ← part e (List.zipWith Value.int K A).toArray (i * k.length)
          let y ← part e (List.zipWith Value.int K B).toArray (i * k.length)
          let r ← Op.equalIn (d + D) e x y
          if (!r) = true then pure (ForInStep.done (some false, ())) else pure (ForInStep.yield (none, ()))) : Sem (Option Bool × Unit)).run P w = .ok (if A.drop (i * k.length) == B.drop (i * k.length) then (none, ()) else (some false, ())) w := by
        intro m
        induction m with
        | zero =>
          intro i hi
          have : i = n := by omega
          subst this
          rw [List.drop_eq_nil_of_le (by omega : A.length ≤ i * k.length), List.drop_eq_nil_of_le (by omega : B.length ≤ i * k.length)]
          simp
        | succ m ih =>
          intro i hi
          have hin : i < n := by omega
          have hfit : i * k.length + k.length ≤ K.length := by
            rw [hKl, show i * k.length + k.length = (i + 1) * k.length by rw [Nat.add_mul, Nat.one_mul]]
            exact Nat.mul_le_mul_right _ (by omega)
          have hK1 : (K.drop (i * k.length)).take k.length = k := by rw [← hKK]; exact flat_drop_replicate k n i hin
          have pa := run_part_flat hk hs (l := List.zipWith Value.int K A) (off := i * k.length) (by simp; omega) w
          have pb := run_part_flat hk hs (l := List.zipWith Value.int K B) (off := i * k.length) (by simp; omega) w
          rw [zip_drop, zip_take, hK1] at pa pb
          have pe := IH e k hk w ((A.drop (i * k.length)).take k.length) ((B.drop (i * k.length)).take k.length) (by simp; omega) (by simp; omega)
          rw [beq_parts A B k.length (i * k.length), show i * k.length + k.length = (i + 1) * k.length by rw [Nat.add_mul, Nat.one_mul]]
          rw [List.range'_succ]
          simp only [List.forIn_cons, Sem.run_bind, pa, pb, pe, Result.andThen_ok]
          cases hb : ((A.drop (i * k.length)).take k.length == (B.drop (i * k.length)).take k.length)
          · simp
          · simpa using ih (i + 1) (by omega)
      have := go n 0 (by omega)
      simp only [Nat.zero_mul, List.drop_zero] at this
      rw [this]
      cases hAB : (A == B) <;> simp
    · rename_i fs hu
      split at h
      rotate_left
      · cases h
      rename_i hc
      have hF : P.fieldsOf t = fs := by simp [Program.fieldsOf, hu]
      simp only [hu]
      rw [show d + (D + 1) = (d + D) + 1 by omega, run_equalIn_struct w (d + D) t _ _ (by rw [hF]; exact hu) hc.1, hF]
      have := run_fields_flat (d + D) (flatKinds P D) D rfl (fun e k hk => IH e k hk) w ks A B hA hB fs.toList 0 ks h hc.2 (by simp) (by simp)
      simpa using this
    · cases h

/-- The comparison, as the walk meets it. -/
theorem run_eql_flat {D t : Nat} {ks : List IntKind} (hD : D ≤ 10000) (h : flatKinds P D t = some ks) (hr : (P.underlying t).map (·.isRow) = some true) (a b : List Int) (ha : a.length = ks.length) (hb : b.length = ks.length) (w : World) :
    (binOp .eql t (.agg (List.zipWith Value.int ks a).toArray) (.agg (List.zipWith Value.int ks b).toArray)).run P w = .ok (.bool (a == b)) w := by
  have := run_equalIn_flat (P := P) (10000 - D) D t ks h w a b ha hb
  rw [show 10000 - D + D = 10000 by omega] at this
  have hv : ∀ cs, asVal P t cs = .agg cs.toArray := fun cs => by
    unfold asVal
    cases hu : P.underlying t with
    | none => simp [hu] at hr
    | some d => cases d <;> simp [hu, TypeDesc.isRow] at hr ⊢
  rw [hv, hv] at this
  rw [run_eql_struct, this]
  rfl
theorem run_neq_flat {D t : Nat} {ks : List IntKind} (hD : D ≤ 10000) (h : flatKinds P D t = some ks) (hr : (P.underlying t).map (·.isRow) = some true) (a b : List Int) (ha : a.length = ks.length) (hb : b.length = ks.length) (w : World) :
    (binOp .neq t (.agg (List.zipWith Value.int ks a).toArray) (.agg (List.zipWith Value.int ks b).toArray)).run P w = .ok (.bool (!(a == b))) w := by
  have := run_equalIn_flat (P := P) (10000 - D) D t ks h w a b ha hb
  rw [show 10000 - D + D = 10000 by omega] at this
  have hv : ∀ cs, asVal P t cs = .agg cs.toArray := fun cs => by
    unfold asVal
    cases hu : P.underlying t with
    | none => simp [hu] at hr
    | some d => cases d <;> simp [hu, TypeDesc.isRow] at hr ⊢
  rw [hv, hv] at this
  rw [run_neq_struct, this]
  rfl
end
/-- One draw later. -/
def Drew (w w' : World) : Prop := w' = w.drew
theorem Drew.drawn {w w' : World} (h : Drew w w') : Drawn w w' := ⟨1, by rw [h]; rfl⟩
theorem Drew.size {w w' : World} (h : Drew w w') : w'.heap.size = w.heap.size := by rw [h]; rfl
theorem Drew.le {w w' : World} (h : Drew w w') : w.heap.size ≤ w'.heap.size := Nat.le_of_eq h.size.symm
theorem Drawn.le {w w' : World} (h : Drawn w w') : w.heap.size ≤ w'.heap.size := Nat.le_of_eq (by rw [h.heap])
theorem Wrote.le {w w' : World} {g : Nat} (h : Wrote w w' g) : w.heap.size ≤ w'.heap.size := Nat.le_of_eq h.size.symm
theorem Made.lt {w w' : World} {T : TypeId} {l : List Value} (h : Made w w' T l) : w.heap.size < w'.heap.size := by rw [h.size]; exact Nat.lt_succ_self _
theorem Blk.drew' {w w' : World} {b : Nat} {T : TypeId} {l : List Value} (h : Blk w b T l) (hd : Drew w w') : Blk w' b T l := by rw [hd]; exact h
theorem Below.drew' {w0 w w' : World} {B : Nat} (h : Below B w0 w) (hd : Drew w w') : Below B w0 w' := by rw [hd]; exact h.drew
theorem Below.carry {w0 w w' : World} {B : Nat} (h : Below B w0 w) (hb : Below w.heap.size w w') : Below B w0 w' ∨ B ≤ w.heap.size → Below B w0 w' := by
  rintro (k | k)
  · exact k
  · exact h.trans (hb.mono k)
theorem wp_region_rg {P : Program} {ops : Array Oper} {Q : Exit → Act → World → Prop} {S : World → Prop} {id : Nat} {a : Act} {w : World} (hm : P.follows .mixedOrders = true)
    (h : ∀ w', Drew w w' → S w' ∧ (S w' → wpAnyH P .any ops Q S ops.size (Array.replicate ops.size false) a w')) : (Code.region id ops true).wp P Q a w :=
  wp_region_held_drew hm (h _ rfl).1 (h _ rfl).2

section
variable {P : Program} {ops : Array Oper} {rest : List Oper} {o : Oper} {a : Act} {w : World} {Q : Exit → Act → World → Prop} {K : Act → World → Prop} {S : World → Prop}
theorem L_store' (hgd : Region.wanted o (yielded ops a.tmps) = true) (T : TypeId) (x y : Operand) (ho : o.op = .store T x y) (b off : Nat) (hx : a.eval x = .pointer (some ⟨b, off, none⟩)) (cs : List Value) (hy : a.eval y = .agg cs.toArray)
    (Tb : TypeId) (l : List Value) (hb : Blk w b Tb l) (hi : (P.info? T).map (·.size) = some cs.length) (hfit : off + cs.length ≤ l.length) (h1 : ∀ v ∈ cs, v.oneCell' = true)
    (l' : List Value) (hl : splice l off cs = l') (h : ∀ w', Blk w' b Tb l' → Wrote w w' b → wpList P ops Q rest (a.put o.dst undef) w') : wpList P ops Q (o :: rest) a w :=
  L_store hgd T x y ho b off hx cs hy Tb l hb hi hfit h1 (fun w' hb' => h w' (hl ▸ hb'))
theorem O_store' (T : TypeId) (x y : Operand) (ho : o.op = .store T x y) (b off : Nat) (hx : a.eval x = .pointer (some ⟨b, off, none⟩)) (cs : List Value) (hy : a.eval y = .agg cs.toArray)
    (Tb : TypeId) (l : List Value) (hb : Blk w b Tb l) (hi : (P.info? T).map (·.size) = some cs.length) (hfit : off + cs.length ≤ l.length) (h1 : ∀ v ∈ cs, v.oneCell' = true)
    (l' : List Value) (hl : splice l off cs = l') (h : ∀ w', Blk w' b Tb l' → Wrote w w' b → K (a.put o.dst undef) w') : Oper.wp P o a w K Q :=
  O_store T x y ho b off hx cs hy Tb l hb hi hfit h1 (fun w' hb' => h w' (hl ▸ hb'))
theorem L_store1' (hgd : Region.wanted o (yielded ops a.tmps) = true) (T : TypeId) (x y : Operand) (ho : o.op = .store T x y) (b off : Nat) (hx : a.eval x = .pointer (some ⟨b, off, none⟩)) (v : Value) (hy : a.eval y = v) (hv : v.oneCell' = true)
    (Tb : TypeId) (l : List Value) (hb : Blk w b Tb l) (hi : (P.info? T).map (·.size) = some 1) (hfit : off < l.length)
    (l' : List Value) (hl : l.set off v = l') (h : ∀ w', Blk w' b Tb l' → Wrote w w' b → wpList P ops Q rest (a.put o.dst undef) w') : wpList P ops Q (o :: rest) a w :=
  L_store1 hgd T x y ho b off hx v hy hv Tb l hb hi hfit (fun w' hb' => h w' (hl ▸ hb'))
theorem O_store1' (T : TypeId) (x y : Operand) (ho : o.op = .store T x y) (b off : Nat) (hx : a.eval x = .pointer (some ⟨b, off, none⟩)) (v : Value) (hy : a.eval y = v) (hv : v.oneCell' = true)
    (Tb : TypeId) (l : List Value) (hb : Blk w b Tb l) (hi : (P.info? T).map (·.size) = some 1) (hfit : off < l.length)
    (l' : List Value) (hl : l.set off v = l') (h : ∀ w', Blk w' b Tb l' → Wrote w w' b → K (a.put o.dst undef) w') : Oper.wp P o a w K Q :=
  O_store1 T x y ho b off hx v hy hv Tb l hb hi hfit (fun w' hb' => h w' (hl ▸ hb'))
/-- copy out of a block known whole into another. -/
theorem L_copy' (hgd : Region.wanted o (yielded ops a.tmps) = true) (d s : Operand) (dT sT : TypeId) (ho : o.op = .call { callee := .builtin .copy, args := #[d, s], argTypes := #[dT, sT] })
    (elem : TypeId) (hu : P.underlying dT = some (.slice elem)) (hs : (P.info? elem).map (·.size) = some 1) (g off dLen dCap b so sLen sCap : Nat)
    (hd : a.eval d = .slice (some ⟨g, off, none⟩) dLen dCap) (hsv : a.eval s = .slice (some ⟨b, so, none⟩) sLen sCap) (T : TypeId) (l : List Value) (hg : Blk w g T l) (Ts : TypeId) (ls : List Value) (hb : Blk w b Ts ls)
    (n : Nat) (hn : Nat.min sLen dLen = n) (cs : List Value) (hcs : (ls.drop so).take n = cs) (hfs : so + n ≤ ls.length) (hfit : off + n ≤ l.length) (h1 : ∀ v ∈ cs, v.oneCell' = true)
    (l' : List Value) (hl : splice l off cs = l') (h : ∀ w', Blk w' g T l' → Wrote w w' g → wpList P ops Q rest (a.put o.dst (goInt (n : Nat))) w') : wpList P ops Q (o :: rest) a w := by
  subst hn hcs hl
  have hlen : ((ls.drop so).take (Nat.min sLen dLen)).length = Nat.min sLen dLen := by
    rw [List.length_take, List.length_drop]; exact Nat.min_eq_left (by omega)
  refine L_copy hgd d s dT sT ho elem hu 1 hs g off dLen dCap ⟨b, so, none⟩ sLen sCap hd hsv T l hg _ (by rw [hlen]; omega) ?_ (by rw [hlen]; exact hfit) h1 h
  intro j v hv
  have hj : j < ((ls.drop so).take (Nat.min sLen dLen)).length := (List.getElem?_eq_some_iff.1 hv).1
  rw [Addr.add_mid, hb.cell, ← hv, List.getElem?_take]
  rw [hlen] at hj
  simp only [hj, if_true]
  rw [List.getElem?_drop]
/-- What is handed back lies in a cell, and a number. -/
theorem results_cell_tmp {fn : Func} {x t : Tmp} {T : TypeId} (hr : fn.results = #[.cell x T, .tmp t]) {tmps : Array Value} {b : Nat} {Tb : TypeId} {l : List Value} (hb : Blk w b Tb l) {d : TypeDesc} (hu : P.underlying T = some d) (hd : d.isRow = true)
    (hi : (P.info? T).map (·.size) = some l.length) (hx : tmps.getD x undef = .pointer (some ⟨b, 0, none⟩)) : (results fn tmps).run P w = .ok (.tuple #[.agg l.toArray, tmps.getD t undef]) w := by
  have := run_loadVar_mid w b 0 T l d (fun j v hv => by rw [hb.cell, Nat.zero_add]; exact hv) hu hd hi
  rw [Array.getD_eq_getD_getElem?] at hx
  simp [results, hr, hx, asAddr, this]
theorem bodyPost_retc {fn : Func} {R : Ending → World → Prop} {x t : Tmp} {T : TypeId} (hr : fn.results = #[.cell x T, .tmp t]) {b : Nat} (hx : a.tmps.getD x undef = .pointer (some ⟨b, 0, none⟩)) {Tb : TypeId} {l : List Value} (hb : Blk w b Tb l) {d : TypeDesc} (hu : P.underlying T = some d) (hd : d.isRow = true)
    (hi : (P.info? T).map (·.size) = some l.length) (hde : a.defers = []) (hR : R (.returned (.tuple #[.agg l.toArray, a.tmps.getD t undef])) w) : bodyPost P fn R .ret a w :=
  bodyPost_ret (results_cell_tmp hr hb hu hd hi hx) hde hR
/-- One struct or array alone is handed back. -/
theorem results_cell {fn : Func} {x : Tmp} {T : TypeId} (hr : fn.results = #[.cell x T]) {tmps : Array Value} {b : Nat} {Tb : TypeId} {l : List Value} (hb : Blk w b Tb l) {d : TypeDesc} (hu : P.underlying T = some d) (hd : d.isRow = true)
    (hi : (P.info? T).map (·.size) = some l.length) (hx : tmps.getD x undef = .pointer (some ⟨b, 0, none⟩)) : (results fn tmps).run P w = .ok (.agg l.toArray) w := by
  have := run_loadVar_mid w b 0 T l d (fun j v hv => by rw [hb.cell, Nat.zero_add]; exact hv) hu hd hi
  rw [Array.getD_eq_getD_getElem?] at hx
  simp [results, hr, hx, asAddr, this]
theorem bodyPost_retc1 {fn : Func} {R : Ending → World → Prop} {x : Tmp} {T : TypeId} (hr : fn.results = #[.cell x T]) {b : Nat} (hx : a.tmps.getD x undef = .pointer (some ⟨b, 0, none⟩)) {Tb : TypeId} {l : List Value} (hb : Blk w b Tb l) {d : TypeDesc} (hu : P.underlying T = some d) (hd : d.isRow = true)
    (hi : (P.info? T).map (·.size) = some l.length) (hde : a.defers = []) (hR : R (.returned (.agg l.toArray)) w) : bodyPost P fn R .ret a w :=
  bodyPost_ret (results_cell hr hb hu hd hi hx) hde hR
/-- An element of an array that is a value. -/
theorem L_index1 (hgd : Region.wanted o (yielded ops a.tmps) = true) (T : TypeId) (x y : Operand) (ho : o.op = .index T x y) (cs : List Value) (hx : a.eval x = .agg cs.toArray) (k : Int) (hy : a.eval y = .int .i64 k) (n : Nat) (e : TypeId) (hu : P.underlying T = some (.array n e))
    (hs : (P.info? e).map (·.size) = some 1) (d : TypeDesc) (hue : P.underlying e = some d) (hd : d.isRow = false) (h0 : 0 ≤ k) (hn : k < n) (v : Value) (hv : cs[k.toNat]? = some v) (h : wpList P ops Q rest (a.put o.dst v) w) : wpList P ops Q (o :: rest) a w :=
  wpList_want hgd fun _ hK => by
    obtain ⟨i, hi1, hi2⟩ := Option.map_eq_some_iff.1 hs
    have hp : ∀ w, (part e cs.toArray (k.toNat * 1)).run P w = .ok v w := fun w => by
      simp [part, isAgg_of hue hd, hv]
    unfold Oper.wp execOp
    simp only [ho, hx, hy]
    simp [Instr.index, asIntOf, run_underlying hu, h0, hn, sizeOf, typeInfo, hi1, hi2] at hp ⊢
    rw [hp]
    exact hK _ _ h
theorem L_box' (hgd : Region.wanted o (yielded ops a.tmps) = true) (T : TypeId) (x : Operand) (ho : o.op = .box T x) (l : List Value) (hx : a.eval x = .agg l.toArray)
    (h : ∀ w', Made w w' T l → wpList P ops Q rest (a.put o.dst (.pointer (some ⟨w.heap.size, 0, none⟩))) w') : wpList P ops Q (o :: rest) a w :=
  L_box hgd T x ho _ hx h
theorem O_box' (T : TypeId) (x : Operand) (ho : o.op = .box T x) (l : List Value) (hx : a.eval x = .agg l.toArray)
    (h : ∀ w', Made w w' T l → K (a.put o.dst (.pointer (some ⟨w.heap.size, 0, none⟩))) w') : Oper.wp P o a w K Q :=
  O_box T x ho _ hx h
theorem L_alloc' (hgd : Region.wanted o (yielded ops a.tmps) = true) (T : TypeId) (ho : o.op = .alloc T) (l : List Value) (hz : (P.info? T).map (·.zero) = some (some (.agg l.toArray)))
    (h : ∀ w', Made w w' T l → wpList P ops Q rest (a.put o.dst (.pointer (some ⟨w.heap.size, 0, none⟩))) w') : wpList P ops Q (o :: rest) a w :=
  L_alloc hgd T ho _ hz h
theorem O_alloc' (T : TypeId) (ho : o.op = .alloc T) (l : List Value) (hz : (P.info? T).map (·.zero) = some (some (.agg l.toArray)))
    (h : ∀ w', Made w w' T l → K (a.put o.dst (.pointer (some ⟨w.heap.size, 0, none⟩))) w') : Oper.wp P o a w K Q :=
  O_alloc T ho _ hz h
theorem O_build (T : TypeId) (parts : Array (Nat × Operand)) (ho : o.op = .build T parts) (vs : List (Nat × Value)) (hv : parts.toList.map (fun p => (p.1, a.eval p.2)) = vs) (l : List Value) (hb : ∀ w, (Instr.build T vs.toArray).run P w = .ok (.agg l.toArray) w)
    (h : K (a.put o.dst (.agg l.toArray)) w) : Oper.wp P o a w K Q := by
  have hv' : parts.map (fun (i, x) => (i, a.eval x)) = vs.toArray := by rw [← hv]; apply Array.ext'; simp
  unfold Oper.wp execOp
  simp only [ho, hv', Sem.run_bind, hb, Result.andThen_ok, Sem.run_pure]
  exact h
theorem L_build (hgd : Region.wanted o (yielded ops a.tmps) = true) (T : TypeId) (parts : Array (Nat × Operand)) (ho : o.op = .build T parts) (vs : List (Nat × Value)) (hv : parts.toList.map (fun p => (p.1, a.eval p.2)) = vs) (l : List Value) (hb : ∀ w, (Instr.build T vs.toArray).run P w = .ok (.agg l.toArray) w)
    (h : wpList P ops Q rest (a.put o.dst (.agg l.toArray)) w) : wpList P ops Q (o :: rest) a w :=
  wpList_want hgd fun _ hK => O_build T parts ho vs hv l hb (hK _ _ h)
theorem exec_cmp (op : BinOp) (T R : TypeId) (x y : Operand) (ho : o.op = .binOp op T x y R) (u v : List Value) (hx : a.eval x = .agg u.toArray) (hy : a.eval y = .agg v.toArray) (hm : P.eqGuardType P.depth T = false) (b : Bool)
    (hb : ∀ w, (binOp op T (.agg u.toArray) (.agg v.toArray)).run P w = .ok (.bool b) w) (w : World) : (execOp a.eval o).run P w = .ok (.value (.bool b)) w := by
  unfold execOp
  simp only [ho, hx, hy, Sem.run_bind, run_eqGuard_agg w op T x y _ _ hm, hb, Result.andThen_ok, Sem.run_pure]
theorem L_cmp (hgd : Region.wanted o (yielded ops a.tmps) = true) (op : BinOp) (T R : TypeId) (x y : Operand) (ho : o.op = .binOp op T x y R) (u v : List Value) (hx : a.eval x = .agg u.toArray) (hy : a.eval y = .agg v.toArray) (hm : P.eqGuardType P.depth T = false) (b : Bool)
    (hb : ∀ w, (binOp op T (.agg u.toArray) (.agg v.toArray)).run P w = .ok (.bool b) w) (h : wpList P ops Q rest (a.put o.dst (.bool b)) w) : wpList P ops Q (o :: rest) a w :=
  wpList_want hgd fun _ hK => by
    unfold Oper.wp
    rw [exec_cmp op T R x y ho u v hx hy hm b hb w]
    exact hK _ _ h
theorem L_load1' (hgd : Region.wanted o (yielded ops a.tmps) = true) (T : TypeId) (x : Operand) (ho : o.op = .load T x) (b off : Nat) (hx : a.eval x = .pointer (some ⟨b, off, none⟩)) (Tb : TypeId) (l : List Value) (hb : Blk w b Tb l)
    (d : TypeDesc) (hu : P.underlying T = some d) (hd : d.isRow = false) (v : Value) (hv : l[off]? = some v) (h : wpList P ops Q rest (a.put o.dst v) w) : wpList P ops Q (o :: rest) a w :=
  L_load1 hgd T x ho b off hx Tb l hb (isAgg_of hu hd) v hv h
theorem O_load1' (T : TypeId) (x : Operand) (ho : o.op = .load T x) (b off : Nat) (hx : a.eval x = .pointer (some ⟨b, off, none⟩)) (Tb : TypeId) (l : List Value) (hb : Blk w b Tb l)
    (d : TypeDesc) (hu : P.underlying T = some d) (hd : d.isRow = false) (v : Value) (hv : l[off]? = some v) (h : K (a.put o.dst v) w) : Oper.wp P o a w K Q :=
  O_load1 T x ho b off hx Tb l hb (isAgg_of hu hd) v hv h
end
end Go.Proofs.Ytpkhomfblilkhaa.E
