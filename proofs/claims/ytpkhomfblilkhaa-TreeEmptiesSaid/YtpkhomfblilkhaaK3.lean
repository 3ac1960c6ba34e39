/- Laws of no program: regions that draw their order, over memory known as a list of whole blocks; results that lie in cells; the frame of a call that writes. Conditions: what each names. -/
import Derived.Test.YtpkhomfblilkhaaK2
import Derived.Deep.DrawnRows
namespace Go.Proofs.Ytpkhomfblilkhaa.E
set_option linter.all false
open Go Go.RowKit

/-- The places that are kept. -/
class Pick (m : List Bool) (L : Mem) (L' : outParam Mem) : Prop where out : L'.Sublist L
instance {L} : Pick [] L L := ⟨List.Sublist.refl _⟩
instance {m x L L'} [h : Pick m L L'] : Pick (true :: m) (x :: L) (x :: L') := ⟨h.out.cons_cons x⟩
instance {m x L L'} [h : Pick m L L'] : Pick (false :: m) (x :: L) L' := ⟨h.out.cons x⟩
/-- These blocks are among those. -/
class Sub (L' L : Mem) : Prop where out : L'.Sublist L
instance {L} : Sub [] L := ⟨List.nil_sublist _⟩
instance {x L' L} [h : Sub L' L] : Sub L' (x :: L) := ⟨h.out.cons x⟩
instance {x L' L} [h : Sub L' L] : Sub (x :: L') (x :: L) := ⟨h.out.cons_cons x⟩
theorem Kn.subs {F : Nat → Prop} {w0 w : World} {L L' : Mem} (hK : Kn F w0 w L) [h : Sub L' L] : Kn F w0 w L' := hK.sub h.out
theorem Kn.pick {F : Nat → Prop} {w0 w : World} {L L' : Mem} (hK : Kn F w0 w L) (m : List Bool) [h : Pick m L L'] : Kn F w0 w L' := hK.sub h.out

/-- What one block's writer leaves. -/
theorem Kn.callW {F : Nat → Prop} {w0 w w' : World} {L L' : Mem} (hK : Kn F w0 w L) {b : Nat} {T : TypeId} {l l' : List Value} [hu : Upd L b T l l' L'] (h : Kn (· = b) w w' [(b, T, l')]) : Kn F w0 w' L' := by
  have hw : Blk w' b T l' := h.blk (b, T, l') (List.mem_cons_self ..)
  obtain ⟨p, q, rfl, rfl⟩ := hu.out
  have hn := hK.nd
  rw [List.map_append, List.map_cons, List.nodup_append] at hn
  obtain ⟨_, hn2, hn3⟩ := hn
  rw [List.nodup_cons] at hn2
  have hne : ∀ x ∈ p ++ (b, T, l') :: q, x = (b, T, l') ∨ (x.1 ≠ b ∧ x ∈ p ++ (b, T, l) :: q) := by
    intro x hx
    rcases List.mem_append.1 hx with hx | hx
    · refine .inr ⟨fun e => ?_, List.mem_append_left _ hx⟩
      exact hn3 x.1 (List.mem_map.2 ⟨x, hx, rfl⟩) b (List.mem_cons_self ..) e
    · rcases List.mem_cons.1 hx with rfl | hx
      · exact .inl rfl
      · refine .inr ⟨fun e => hn2.1 (List.mem_map.2 ⟨x, hx, e⟩), List.mem_append_right _ (List.mem_cons_of_mem _ hx)⟩
  have hown : b < w0.heap.size → F b := hK.own (b, T, l) (List.mem_append_right _ (List.mem_cons_self ..))
  refine ⟨hK.only.step h.only.os h.only.tape h.only.output h.only.size (fun k hk hf => h.only.block k (Nat.lt_of_lt_of_le hk hK.only.size) (fun e => hf (by subst e; exact hown hk))), ?_, ?_, ?_⟩
  · intro x hx
    rcases hne x hx with rfl | ⟨h1, h2⟩
    · exact hw
    · exact (h.only.block x.1 (hK.lt h2) h1).trans (hK.blk x h2)
  · intro x hx
    rcases hne x hx with rfl | ⟨h1, h2⟩
    · exact hown
    · exact hK.own x h2
  · simpa using hK.nd

section
variable {P : Program} {ops : Array Oper} {o : Oper} {a : Act} {w : World} {Q : Exit → Act → World → Prop} {K : Act → World → Prop} {F : Nat → Prop} {w0 : World} {L : Mem}

/-- The beginning of a region that draws its order: what its loads see is known of the blocks that are kept. -/
theorem wp_region_kn {id : Nat} (hK : Kn F w0 w L) (m : List Bool) {Lr : Mem} [hm : Pick m L Lr] (hf : P.follows .mixedOrders = true)
    (h : ∀ w', Kn F w0 w' L → Kn F w0 w' Lr → wpAnyH P .any ops Q (fun w' => Kn F w0 w' Lr) ops.size (Array.replicate ops.size false) a w') : (Code.region id ops true).wp P Q a w :=
  wp_region_held_drew (S := fun w' => Kn F w0 w' Lr) hf (hK.drew.pick m) (h _ hK.drew)
theorem KS_load {Lr : Mem} (T : TypeId) (x : Operand) (ho : o.op = .load T x) (b off : Nat) (hx : a.eval x = .pointer (some ⟨b, off, none⟩)) {Tb : TypeId} {l cs : List Value} {n : Nat} [hb : Has Lr b Tb l] [ht : TyRow P T] [hn : TySz P T n]
    [hc : Part l off n cs] : Sees P (fun w => Kn F w0 w Lr) o a (.agg cs.toArray) := by
  obtain ⟨d, hu, hd⟩ := isRow_of ht
  exact exec_load T x ho b off hx Tb l (fun w hS => hS.has) n hn.out d hu hd hc.fit hc.out
theorem KS_load1 {Lr : Mem} (T : TypeId) (x : Operand) (ho : o.op = .load T x) (b off : Nat) (hx : a.eval x = .pointer (some ⟨b, off, none⟩)) {Tb : TypeId} {l : List Value} {v : Value} [hb : Has Lr b Tb l] [ht : TyOne P T]
    [hc : At l off v] : Sees P (fun w => Kn F w0 w Lr) o a v := by
  obtain ⟨d, hu, hd⟩ := isOne_of ht
  exact exec_load1' T x ho b off hx Tb l (fun w hS => hS.has) d hu hd hc.out
theorem KS_build {S : World → Prop} (T : TypeId) (parts : Array (Nat × Operand)) (ho : o.op = .build T parts) (vs : List (Nat × Value)) (hv : parts.toList.map (fun p => (p.1, a.eval p.2)) = vs) {l : List Value} [hb : Bld P T vs l] :
    Sees P S o a (.agg l.toArray) := exec_build T parts ho vs hv hb.out
theorem KS_cmp {S : World → Prop} (op : BinOp) (T R : TypeId) (x y : Operand) (ho : o.op = .binOp op T x y R) (u v : List Value) (hx : a.eval x = .agg u.toArray) (hy : a.eval y = .agg v.toArray) [hm : NoIf P T] {b : Bool}
    [hb : Cmp P op T u v b] : Sees P S o a (.bool b) := fun w _ => exec_cmp op T R x y ho u v hx hy hm.out b hb.out w

class Nth (ops : Array Oper) (i : Nat) (o : outParam Oper) : Prop where out : ops[i]? = some o
instance {o : Oper} {l : List Oper} : Nth (o :: l).toArray 0 o := ⟨rfl⟩
instance {x o : Oper} {l : List Oper} {n : Nat} [h : Nth l.toArray n o] : Nth (x :: l).toArray (n + 1) o := ⟨by simpa using h.out⟩
/-- A ready operation that only reads is taken first. -/
theorem KS_take {S : World → Prop} {md : Region.Mode} (i : Nat) {oi : Oper} [hi : Nth ops i oi] {v : Value} {fuel : Nat} {listed : Array Bool}
    (hs : Region.noSelect ops = true) (hf : Region.free md ops listed i = true) (hr : (Region.ready md ops listed).contains i = true)
    (hQ : ∀ c a w, Q (.panic c) (a.put oi.dst v) w → Q (.panic c) a w) (hw : Region.wanted oi (yielded ops a.tmps) = true) (hy : Sees P S oi a v) (hS : S w)
    (h : wpAnyH P md ops Q S fuel (listed.setIfInBounds i true) (a.put oi.dst v) w) : wpAnyH P md ops Q S (fuel + 1) listed a w :=
  rg_take hi.out hs hf hr hQ hw hy hS h
theorem KS_one {S : World → Prop} {md : Region.Mode} {fuel : Nat} {listed : Array Bool} (i : Nat) {oi : Oper} [hi : Nth ops i oi] (hr : Region.ready md ops listed = [i]) (hw : Region.wanted oi (yielded ops a.tmps) = true)
    (h : ∀ K' : Act → World → Prop, Shut (∀ a w, S w → (S w → wpAnyH P md ops Q S fuel (listed.setIfInBounds i true) a w) → K' a w) → Oper.wp P oi a w K' Q) : wpAnyH P md ops Q S (fuel + 1) listed a w :=
  wpAnyH_ready hr (by simp) (AllReadyH.cons hi.out (fun K hk => by rw [if_pos hw]; exact h K hk) AllReadyH.nil)
theorem KS_two {S : World → Prop} {md : Region.Mode} {fuel : Nat} {listed : Array Bool} (i j : Nat) {oi oj : Oper} [hi : Nth ops i oi] [hj : Nth ops j oj] (hr : Region.ready md ops listed = [i, j]) (hw : Region.wanted oi (yielded ops a.tmps) = true) (hw' : Region.wanted oj (yielded ops a.tmps) = true)
    (h : ∀ K' : Act → World → Prop, Shut (∀ a w, S w → (S w → wpAnyH P md ops Q S fuel (listed.setIfInBounds i true) a w) → K' a w) → Oper.wp P oi a w K' Q)
    (h' : ∀ K' : Act → World → Prop, Shut (∀ a w, S w → (S w → wpAnyH P md ops Q S fuel (listed.setIfInBounds j true) a w) → K' a w) → Oper.wp P oj a w K' Q) : wpAnyH P md ops Q S (fuel + 1) listed a w :=
  wpAnyH_ready hr (by simp) (AllReadyH.cons hi.out (fun K hk => by rw [if_pos hw]; exact h K hk) (AllReadyH.cons hj.out (fun K hk => by rw [if_pos hw']; exact h' K hk) AllReadyH.nil))

/-- The ways through a region meet again. -/
def Ends (F : Nat → Prop) (w0 : World) (A : Act) (L : Mem) : Exit → Act → World → Prop
  | .normal, a, w => a = A ∧ Kn F w0 w L
  | _, _, _ => False
theorem wp_meet (_ : Kn F w0 w L) {c : Code} (A : Act) (L' : Mem) (h : c.wp P (Ends F w0 A L') a w) (k : ∀ w', Kn F w0 w' L' → Q .normal A w') : c.wp P Q a w :=
  Code.wp_mono (fun e a' w' h' => by
    cases e with
    | normal => obtain ⟨rfl, h2⟩ := h'; exact k w' h2
    | _ => exact h'.elim) h

def Ends2 (F : Nat → Prop) (w0 : World) (A : Nat → Nat → Act) (L : Nat → Nat → Mem) : Exit → Act → World → Prop
  | .normal, a, w => ∃ x y, a = A x y ∧ Kn F w0 w (L x y)
  | _, _, _ => False
theorem wp_meet2 (_ : Kn F w0 w L) {c : Code} (A : Nat → Nat → Act) (L' : Nat → Nat → Mem) (h : c.wp P (Ends2 F w0 A L') a w) (k : ∀ x y w', Kn F w0 w' (L' x y) → Q .normal (A x y) w') : c.wp P Q a w :=
  Code.wp_mono (fun e a' w' h' => by
    cases e with
    | normal => obtain ⟨x, y, rfl, h2⟩ := h'; exact k x y w' h2
    | _ => exact h'.elim) h

/-! ### Results in cells -/
theorem part_whole {l : List Value} {n : Nat} (h : Part l 0 n l) : l.length = n := by
  have h1 := congrArg List.length h.out
  have h2 := h.fit
  simp at h1
  omega
theorem KR_ct (hK : Kn F w0 w L) {fn : Func} {R : Ending → World → Prop} {x t : Tmp} {T : TypeId} (hr : fn.results = #[.cell x T, .tmp t]) {b : Nat} (hx : a.tmps.getD x undef = .pointer (some ⟨b, 0, none⟩)) {Tb : TypeId} {l : List Value} {n : Nat} [hb : Has L b Tb l] [ht : TyRow P T] [hn : TySz P T n] [hp : Part l 0 n l]
    (hde : a.defers = []) (hR : R (.returned (.tuple #[.agg l.toArray, a.tmps.getD t undef])) w) : bodyPost P fn R .ret a w := by
  obtain ⟨d, hu, hd⟩ := isRow_of ht
  exact bodyPost_retc hr hx hK.has hu hd (part_whole hp ▸ hn.out) hde hR
theorem KR_c (hK : Kn F w0 w L) {fn : Func} {R : Ending → World → Prop} {x : Tmp} {T : TypeId} (hr : fn.results = #[.cell x T]) {b : Nat} (hx : a.tmps.getD x undef = .pointer (some ⟨b, 0, none⟩)) {Tb : TypeId} {l : List Value} {n : Nat} [hb : Has L b Tb l] [ht : TyRow P T] [hn : TySz P T n] [hp : Part l 0 n l]
    (hde : a.defers = []) (hR : R (.returned (.agg l.toArray)) w) : bodyPost P fn R .ret a w := by
  obtain ⟨d, hu, hd⟩ := isRow_of ht
  exact bodyPost_retc1 hr hx hK.has hu hd (part_whole hp ▸ hn.out) hde hR
/-- What a region's reads in an open order do to the world. -/
theorem Kn.quiet {w' : World} (hK : Kn F w0 w L) (h : ∃ n, w' = w.drewN n) : Kn F w0 w' L := by obtain ⟨n, rfl⟩ := h; exact hK.drewN n
end
end Go.Proofs.Ytpkhomfblilkhaa.E
