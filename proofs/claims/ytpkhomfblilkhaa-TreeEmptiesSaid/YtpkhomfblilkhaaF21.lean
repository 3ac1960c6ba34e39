/- Rows of entries that a function is handed: read, not written. law17: one, del, set. -/
import Derived.Test.YtpkhomfblilkhaaF20
namespace Go.Proofs.Ytpkhomfblilkhaa.E
set_option linter.all false
open Go Go.RowKit

/-- What lay there ahead of the call, and is not written. -/
structure Old (F : Nat → Prop) (w0 : World) (g o : Nat) (cs : List Value) : Prop where
  lt : g < w0.heap.size
  free : ¬ F g
  at' : w0.rangeAt g o cs
theorem Old.see {F : Nat → Prop} {w0 w : World} {g o : Nat} {cs : List Value} {L : Mem} (h : Old F w0 g o cs) (hK : Kn F w0 w L) : w.rangeAt g o cs := fun j v hv => by
  rw [World.cell?_of_block (hK.only.block g h.lt h.free)]
  exact h.at' j v hv
theorem Old.sub {F : Nat → Prop} {w0 : World} {g o : Nat} {cs : List Value} (h : Old F w0 g o cs) {k n : Nat} {ds : List Value} (hd : (cs.drop k).take n = ds) : Old F w0 g (o + k) ds := ⟨h.lt, h.free, fun j v hv => by
  have := h.at' (k + j) v (by
    rw [← hd, List.getElem?_take] at hv
    split at hv
    · rwa [List.getElem?_drop] at hv
    · cases hv)
  rwa [← Nat.add_assoc] at this⟩
section
variable {P : Program} {ops : Array Oper} {rest : List Oper} {o : Oper} {a : Act} {w : World} {Q : Exit → Act → World → Prop} {K : Act → World → Prop} {F : Nat → Prop} {w0 : World} {L : Mem}
theorem KO_loadR (T : TypeId) (x : Operand) (ho : o.op = .load T x) (b off : Nat) (hx : a.eval x = .pointer (some ⟨b, off, none⟩)) {cs : List Value} {n : Nat} (hr : w.rangeAt b off cs) [ht : TyRow P T] [hn : TySz P T n] (hl : cs.length = n)
    (h : K (a.put o.dst (.agg cs.toArray)) w) : Oper.wp P o a w K Q := by
  obtain ⟨d, hu, hd⟩ := isRow_of ht
  unfold Oper.wp execOp
  simp only [ho, hx, Sem.run_bind, run_loadAt_mid w b off T cs d hr hu hd (by rw [hl]; exact hn.out), Result.andThen_ok, Sem.run_pure]
  exact h
theorem KL_loadR (hgd : Region.wanted o (yielded ops a.tmps) = true) (T : TypeId) (x : Operand) (ho : o.op = .load T x) (b off : Nat) (hx : a.eval x = .pointer (some ⟨b, off, none⟩)) {cs : List Value} {n : Nat} (hr : w.rangeAt b off cs) [ht : TyRow P T] [hn : TySz P T n] (hl : cs.length = n)
    (h : wpList P ops Q rest (a.put o.dst (.agg cs.toArray)) w) : wpList P ops Q (o :: rest) a w :=
  wpList_want hgd fun _ hk => KO_loadR T x ho b off hx hr hl (hk _ _ h)
theorem KS_loadR {Lr : Mem} (T : TypeId) (x : Operand) (ho : o.op = .load T x) (b off : Nat) (hx : a.eval x = .pointer (some ⟨b, off, none⟩)) {cs : List Value} {n : Nat} (hr : Old F w0 b off cs) [ht : TyRow P T] [hn : TySz P T n] (hl : cs.length = n) : Sees P (fun w => Kn F w0 w Lr) o a (.agg cs.toArray) := by
  obtain ⟨d, hu, hd⟩ := isRow_of ht
  intro w hS
  unfold execOp
  simp only [ho, hx, Sem.run_bind, run_loadAt_mid w b off T cs d (hr.see hS) hu hd (by rw [hl]; exact hn.out), Result.andThen_ok, Sem.run_pure]
end
/-- A slice of entries that can be read. -/
inductive Rd (w : World) : Value → List Ent → Prop
  | nil (a : Option Addr) (c : Nat) : Rd w (.slice a 0 c) []
  | row (g o c : Nat) (es : List Ent) (h0 : 0 < es.length) (hg : g < w.heap.size) (hr : w.rangeAt g o (rows rE es)) (hm : es.length ≤ maxLen) : Rd w (.slice (some ⟨g, o, none⟩) es.length c) es
theorem Rd.old {w : World} {g o : Nat} {es : List Ent} (hg : g < w.heap.size) (hr : w.rangeAt g o (rows rE es)) : Old Nil w g o (rows rE es) := ⟨hg, id, hr⟩
theorem old_el {F : Nat → Prop} {w : World} {g o : Nat} {es : List Ent} (h : Old F w g o (rows rE es)) {i : Nat} (hi : i < es.length) : Old F w g (o + i * 80) (U es[i].b) :=
  h.sub (rows_part rE_len es hi)
theorem old_key {F : Nat → Prop} {w : World} {g o : Nat} {e : Ent} (h : Old F w g o (U e.b)) : Old F w g o (U e.ky.b) := by
  have := h.sub (k := 0) (n := 40) (ds := U e.ky.b) (U_sub (l := e.b) (off := 0) (n := 40) (by have := e.len; omega)).out
  simpa using this
theorem Sl.rd {n : Nat} {es : List Ent} {v : Value} {M : Mem} (h : Sl 28 80 n (rows rE es) v M) {w : World} (hb : ∀ x ∈ M, Blk w x.1 x.2.1 x.2.2) : Rd w v es := by
  have hl := h.len
  rw [rows_length rE_len] at hl
  obtain rfl : es.length = n := by omega
  cases h with
  | nil hn hx =>
    obtain rfl := List.eq_nil_of_length_eq_zero hn
    exact .nil _ _
  | row g cap junk hx hc hn hm =>
    have hB : Blk w g 28 (rows rE es ++ junk) := hb _ (List.mem_cons_self ..)
    by_cases h0 : es.length = 0
    · obtain rfl := List.eq_nil_of_length_eq_zero h0
      exact .nil _ _
    · exact .row g 0 cap es (by omega) hB.lt (hB.range 0 _ junk [] rfl rfl) (by omega)
/-- New memory joins what is known. -/
theorem Kn.more {F : Nat → Prop} {w0 w w' : World} {L M : Mem} (hK : Kn F w0 w L) (h : Kn Nil w w' M) : Kn F w0 w' (M ++ L) := by
  have hM : ∀ x ∈ M, w.heap.size ≤ x.1 := fun x hx => Nat.le_of_not_lt fun hlt => h.own x hx hlt
  refine ⟨hK.only.trans (h.only.mono fun _ _ hf => hf.elim), ?_, ?_, ?_⟩
  · intro x hx
    rcases List.mem_append.1 hx with hx | hx
    · exact h.blk x hx
    · exact (h.only.block x.1 (hK.lt hx) id).trans (hK.blk x hx)
  · intro x hx hlt
    rcases List.mem_append.1 hx with hx | hx
    · have := hM x hx; have := hK.only.size; omega
    · exact hK.own x hx hlt
  · rw [List.map_append, List.nodup_append]
    refine ⟨h.nd, hK.nd, fun a ha b hb hab => ?_⟩
    obtain ⟨x, hx, rfl⟩ := List.mem_map.1 ha
    obtain ⟨y, hy, rfl⟩ := List.mem_map.1 hb
    have := hM x hx; have := hK.lt hy; omega
/-! ### one -/
def oneE (k : Int) (hk : IsB k) : Ent := ⟨(k :: Z 39) ++ (k :: Z 39), by simp, allB_app (fun x hx => (List.mem_cons.1 hx).elim (fun h => h ▸ hk) (allB_Z 39 x)) (fun x hx => (List.mem_cons.1 hx).elim (fun h => h ▸ hk) (allB_Z 39 x))⟩
theorem built_ent (parts : List (Nat × Value)) : Try.prog.built 28 parts = Instr.fill (fun i => (#[(0, 40), (40, 40)] : Array (Nat × Nat))[i]?) (U (Z 80)).toArray parts := by kernel_rfl
instance {a b : List Int} [ha : Ln a 40] [hb : Ln b 40] : Bld Try.prog 28 [(0, .agg (U a).toArray), (1, .agg (U b).toArray)] (U a ++ U b) := ⟨fun w => by
  refine run_build w 28 _ _ ?_
  rw [List.toList_toArray, built_ent]
  have la : (U a).length = 40 := by rw [U_length, ha.out]
  have lb : (U b).length = 40 := by rw [U_length, hb.out]
  have e0 : U (Z 80) = U (Z 40) ++ U (Z 40) := by rw [← U_append]; rfl
  have lz : (U (Z 40)).length = 40 := by simp
  rw [fill_step (off := 0) (size := 40) (cs := U a) rfl rfl la (by simp)]
  rw [splice_at (off := 0) (cs := U a) (L := U (Z 80)) (pre := []) (mid := U (Z 40)) (post := U (Z 40)) (by rw [e0]; rfl) rfl (by rw [lz, la])]
  rw [fill_step (off := 40) (size := 40) (cs := U b) rfl rfl lb (by simp [ha.out])]
  rw [splice_at (off := 40) (cs := U b) (L := [] ++ (U a ++ U (Z 40))) (pre := U a) (mid := U (Z 40)) (post := []) (by simp) la (by rw [lz, lb])]
  rw [Instr.fill]
  simp⟩
instance {k} : Bld Try.prog 26 [(0, .int .u8 k)] (U (k :: Z 39)) := ⟨fun w => run_build w 26 _ _ (by kernel_rfl)⟩
instance {a b : List Int} {n m : Nat} [ha : Ln a n] [hb : Ln b m] : Part (U a ++ U b) 0 (n + m) (U a ++ U b) := ⟨by rw [List.drop_zero, List.take_of_length_le (by simp [ha.out, hb.out])], by simp [ha.out, hb.out]⟩
set_option maxRecDepth 20000 in
set_option maxHeartbeats 800000 in
theorem one_c (k : Int) (hk : IsB k) (w : World) : Calls Try.prog 41 #[.int .u8 k] w fun r w' => r = .returned (.agg (U (oneE k hk).b).toArray) ∧ Below w.heap.size w w' := by
  have he : U (oneE k hk).b = U (k :: Z 39) ++ U (k :: Z 39) := U_append _ _
  have HE := Lib.hid he
  haveI : Spl (U (Z 80)) 0 80 (U (k :: Z 39) ++ U (k :: Z 39)) (U (oneE k hk).b) := ⟨by rw [he]; exact splice_all (by simp), by simp, by simp⟩
  clear he
  refine Kn.begin (fun w0 hK => ?_)
  go_enter Try.func41, Try.ntmps41
  go_wp2_with ((with_reducible change wpList _ _ _ (_ :: _) _ _); first | ((with_reducible change wpList _ _ _ (Oper.mk _ (Op.load _ _) _ _ _ _ :: _) _ _); first | (refine KL_load1 hK (by rfl) _ _ rfl _ _ rfl ?_) | (refine KL_load hK (by rfl) _ _ rfl _ _ rfl ?_)) | ((with_reducible change wpList _ _ _ (Oper.mk _ (Op.store _ _ _) _ _ _ _ :: _) _ _); first | (refine KL_store1 hK (by rfl) _ _ _ rfl _ _ rfl _ (by conv => lhs; whnf) (by rfl) ?_; clear hK; intro w hK) | (refine KL_store hK (by rfl) _ _ _ rfl _ _ rfl _ rfl ?_; clear hK; intro w hK)) | ((with_reducible change wpList _ _ _ (Oper.mk _ (Op.alloc _) _ _ _ _ :: _) _ _); refine KL_alloc hK (by rfl) _ rfl ?_; clear hK; intro b w hK) | ((with_reducible change wpList _ _ _ (Oper.mk _ (Op.box _ _) _ _ _ _ :: _) _ _); refine KL_box hK (by rfl) _ _ rfl _ (by conv => lhs; whnf) ?_; clear hK; intro b w hK) | ((with_reducible change wpList _ _ _ (Oper.mk _ (Op.build _ _) _ _ _ _ :: _) _ _); first | (refine KL_build0 (by rfl) _ rfl ?_) | (refine KL_build1 (by rfl) _ _ _ rfl _ (by conv => lhs; whnf) ?_) | (refine KL_build2 (by rfl) _ _ _ _ _ rfl _ (by conv => lhs; whnf) _ (by conv => lhs; whnf) ?_) | (refine KL_build3 (by rfl) _ _ _ _ _ _ _ rfl _ (by conv => lhs; whnf) _ (by conv => lhs; whnf) _ (by conv => lhs; whnf) ?_) | (refine KL_build4 (by rfl) _ _ _ _ _ _ _ _ _ rfl _ (by conv => lhs; whnf) _ (by conv => lhs; whnf) _ (by conv => lhs; whnf) _ (by conv => lhs; whnf) ?_) | (refine KL_build5 (by rfl) _ _ _ _ _ _ _ _ _ _ _ rfl _ (by conv => lhs; whnf) _ (by conv => lhs; whnf) _ (by conv => lhs; whnf) _ (by conv => lhs; whnf) _ (by conv => lhs; whnf) ?_)) | ((with_reducible change wpList _ _ _ (Oper.mk _ (Op.binOp _ _ _ _ _) _ _ _ _ :: _) _ _); refine KL_cmp (by rfl) _ _ _ _ _ rfl _ _ rfl rfl ?_) | ((with_reducible change wpList _ _ _ (Oper.mk _ (Op.call _) _ _ _ _ :: _) _ _); refine KL_copy hK (by rfl) _ _ _ _ rfl _ _ _ _ _ _ _ _ rfl rfl _ _ (by first | exact Nat.min_eq_left (by first | decide | omega) | exact Nat.min_eq_right (by first | decide | omega)) (by first | exact Nat.mul_one _ | (conv => lhs; simp only [Nat.reduceMul])) ?_; clear hK; intro w hK) | ((with_reducible change wpList _ _ _ (Oper.mk _ (Op.index _ _ _) _ _ _ _ :: _) _ _); refine KL_index (by rfl) _ _ _ rfl _ rfl _ rfl _ (by conv => lhs; simp only [Int.reduceToNat, Int.toNat_natCast]) (by first | decide | omega) (by first | decide | omega) ?_) | ((with_reducible change wpList _ _ _ (Oper.mk _ (Op.sliceToArrayPointer _ _) _ _ _ _ :: _) _ _); refine KL_arr (by rfl) _ _ rfl _ _ _ rfl (by first | decide | omega) ?_))
  ((try simp only [Exit.inBlock, Exit.then]); (first | refine KR_ct hK rfl rfl rfl ?_ | refine KR_c hK rfl rfl rfl ?_))
  exact ⟨rfl, hK.below⟩
end Go.Proofs.Ytpkhomfblilkhaa.E
