/- Tree.Nodes walked; how many nodes there are. -/
import Derived.Test.YtpkhomfblilkhaaN2
namespace Go.Proofs.Ytpkhomfblilkhaa.E
set_option linter.all false
open Go Go.RowKit

/-! ### How many -/
theorem nodesL_len {α : Type} {f : α → Nat → List NodeV} {c : α → Nat} : ∀ (us : List α), (∀ u ∈ us, ∀ b, (f u b).length = c u) → ∀ b, (nodesL f us b).1.length = (us.map c).sum
  | [], _, _ => rfl
  | u :: us, h, b => by
    rw [nodesL, List.length_append, h u (by simp), nodesL_len us (fun v hv => h v (by simp [hv]))]
    simp
def nct : (d : Nat) → Tr d → Nat
  | 0, _ => 1
  | d + 1, t => (t.2.map (nct d)).sum + 1
theorem nodesT_nct : ∀ (d : Nat) (t : Tr d) (b : Nat), (nodesT d t b).length = nct d t
  | 0, _, _ => rfl
  | d + 1, t, b => by rw [nodesT_len, nodesL_len t.2 (fun u _ b => nodesT_nct d u b)]; rfl
theorem ents_sum {d : Nat} (us : List (Tr d)) : (us.flatMap (ents d)).length = (us.map (fun u => (ents d u).length)).sum := by
  induction us with
  | nil => rfl
  | cons u us ih => rw [List.flatMap_cons, List.length_append, ih]; simp
theorem sum_le5 {d : Nat} : ∀ (us : List (Tr d)), (∀ u ∈ us, 5 * nct d u + 1 ≤ (ents d u).length) → 5 * (us.map (nct d)).sum + us.length ≤ (us.map (fun u => (ents d u).length)).sum
  | [], _ => by simp
  | u :: us, h => by
    have h1 := h u (by simp)
    have h2 := sum_le5 us fun v hv => h v (by simp [hv])
    simp only [List.map_cons, List.sum_cons, List.length_cons]
    omega
theorem nct_big : ∀ (d : Nat) {t : Tr d}, Big d t → 5 * nct d t + 1 ≤ (ents d t).length
  | 0, es, h => h
  | d + 1, t, h => by
    have h2 := sum_le5 t.2 fun u hu => nct_big d (h.2 u hu)
    have h3 := ents_sum t.2
    have h4 := h.1
    show 5 * ((t.2.map (nct d)).sum + 1) + 1 ≤ (t.2.flatMap (ents d)).length
    omega
theorem nct_top {x : Top} (h : Inv x) : nct x.1 x.2 ≤ (entsT x).length / 4 + 1 := by
  obtain ⟨d, t⟩ := x
  cases d with
  | zero => show 1 ≤ _; omega
  | succ d =>
    have h2 := sum_le5 t.2 fun u hu => nct_big d (h.big.1 u hu)
    have h3 := ents_sum t.2
    show (t.2.map (nct d)).sum + 1 ≤ (t.2.flatMap (ents d)).length / 4 + 1
    omega
theorem nodes_top {x : Top} (h : Inv x) (b : Nat) : (nodesT x.1 x.2 b).length ≤ (entsT x).length / 4 + 1 := by rw [nodesT_nct]; exact nct_top h
theorem big_kids2 : ∀ (d : Nat) {t : Tr d}, Big d t → Kids2 d t
  | 0, _, _ => trivial
  | d + 1, t, h => ⟨by have := h.1; omega, fun u hu => big_kids2 d (h.2 u hu)⟩
theorem inv_kids2 {x : Top} (h : Inv x) : Kids2 x.1 x.2 := by
  obtain ⟨d, t⟩ := x
  cases d with
  | zero => trivial
  | succ d => exact ⟨h.big.2 (Nat.succ_pos d), fun u hu => big_kids2 d (h.big.1 u hu)⟩
/-! ### The walk -/
/-- The nodes of a tree of these entries, in new memory. -/
def NdsRet (F : Nat → Prop) (w0 : World) (X : Mem) (es : List Ent) : Ending → World → Prop := fun r w' => ∃ (x : Top) (ns : List NodeV) (v : Value) (Mv : Mem) (ps : List Value) (MM : Mem), Inv x ∧ entsT x = es ∧ ns = nodesT x.1 x.2 0 ∧ r = .returned (.tuple #[v, .int .i64 ((ns.length : Int) - 1)]) ∧ Sl 77 4 ns.length (flatV ps) v Mv ∧ Reps RepN ns ps MM ∧ Kn F w0 w' (Mv ++ (MM ++ X))
set_option maxRecDepth 20000 in
set_option maxHeartbeats 1600000 in
theorem Nodes_t {F : Nat → Prop} {w0 w : World} {L M : Mem} {b : Nat} {es : List Ent} (hK : Kn F w0 w (M ++ L)) (hT : Tree b es M) (hn : es.length ≤ 1000000) : Calls Try.prog 32 #[.pointer (some ⟨b, 0, none⟩)] w (NdsRet F w0 (M ++ L) es) := by
  obtain ⟨x, hi, rfl, p, M0, hp, rfl⟩ := hT
  obtain ⟨T, bp, rfl⟩ := hp.iface
  rw [List.cons_append] at hK ⊢
  have hc := nodes_top hi 0
  have hnd : ∀ (w : World) (bl : Nat) (y : Nat × TypeId × List Value), Kn F w0 w ((bl, 72, [.slice none 0 0]) :: y :: (M0 ++ L)) → Calls Try.prog 47 #[.iface T (.pointer (some ⟨bp, 0, none⟩)), .pointer (some ⟨bl, 0, none⟩)] w fun r w' => r = .returned (.int .i64 (((nodesT x.1 x.2 0).length : Int) - 1)) ∧ ∃ v Mv ps MM, Sl 77 4 (nodesT x.1 x.2 0).length (flatV ps) v Mv ∧ Reps RepN (nodesT x.1 x.2 0) ps MM ∧ Kn F w0 w' ((bl, 72, [v]) :: (Mv ++ (MM ++ (y :: (M0 ++ L))))) := fun w bl y h => by
    have h1 : Kn F w0 w (M0 ++ ([(bl, 72, [.slice none 0 0])] ++ (y :: L))) := (Kn.mv h [] (fun f => by simp only [wt_append, wt_cons, wt_nil]; omega))
    have h2 : NodesAt bl [] [(bl, 72, [.slice none 0 0])] := ⟨_, [], [], [], rfl, .nil rfl rfl, .nil⟩
    refine (nodes_c h1 hp h2 (inv_ok hi) (inv_kids2 hi) (by simp; omega)).mono ?_
    rintro r w' ⟨rfl, Mn, ⟨v, Mv, ps, MM, rfl, hS, hR⟩, h'⟩
    exact ⟨rfl, v, Mv, ps, MM, hS, hR, (Kn.mv h' [] (fun f => by simp only [wt_append, wt_cons, wt_nil]; omega))⟩
  have HND := Lib.hid hnd
  obtain ⟨k, hk⟩ : ∃ k : Int, k = ((nodesT x.1 x.2 0).length : Int) - 1 := ⟨_, rfl⟩
  rw [← hk] at HND
  have HK := Lib.hid hk
  have HI := Lib.hid hi
  clear hnd hp hc hk hi
  go_enter Try.func32, Try.ntmps32
  go_wp2_with (first | ((with_reducible change wpList _ _ _ (_ :: _) _ _); first | ((with_reducible change wpList _ _ _ (Oper.mk _ (Op.load _ _) _ _ _ _ :: _) _ _); first | (refine KL_load1 hK (by rfl) _ _ rfl _ _ rfl ?_) | (refine KL_load hK (by rfl) _ _ rfl _ _ rfl ?_)) | ((with_reducible change wpList _ _ _ (Oper.mk _ (Op.store _ _ _) _ _ _ _ :: _) _ _); first | (refine KL_store1 hK (by rfl) _ _ _ rfl _ _ rfl _ (by conv => lhs; whnf) (by rfl) ?_; clear hK; intro w hK) | (refine KL_store hK (by rfl) _ _ _ rfl _ _ rfl _ rfl ?_; clear hK; intro w hK)) | ((with_reducible change wpList _ _ _ (Oper.mk _ (Op.alloc _) _ _ _ _ :: _) _ _); refine KL_alloc hK (by rfl) _ rfl ?_; clear hK; intro b w hK) | ((with_reducible change wpList _ _ _ (Oper.mk _ (Op.box _ _) _ _ _ _ :: _) _ _); refine KL_box hK (by rfl) _ _ rfl _ (by conv => lhs; whnf) ?_; clear hK; intro b w hK) | ((with_reducible change wpList _ _ _ (Oper.mk _ (Op.build _ _) _ _ _ _ :: _) _ _); first | (refine KL_build0 (by rfl) _ rfl ?_) | (refine KL_build1 (by rfl) _ _ _ rfl _ (by conv => lhs; whnf) ?_) | (refine KL_build2 (by rfl) _ _ _ _ _ rfl _ (by conv => lhs; whnf) _ (by conv => lhs; whnf) ?_) | (refine KL_build3 (by rfl) _ _ _ _ _ _ _ rfl _ (by conv => lhs; whnf) _ (by conv => lhs; whnf) _ (by conv => lhs; whnf) ?_) | (refine KL_build4 (by rfl) _ _ _ _ _ _ _ _ _ rfl _ (by conv => lhs; whnf) _ (by conv => lhs; whnf) _ (by conv => lhs; whnf) _ (by conv => lhs; whnf) ?_) | (refine KL_build5 (by rfl) _ _ _ _ _ _ _ _ _ _ _ rfl _ (by conv => lhs; whnf) _ (by conv => lhs; whnf) _ (by conv => lhs; whnf) _ (by conv => lhs; whnf) _ (by conv => lhs; whnf) ?_)) | ((with_reducible change wpList _ _ _ (Oper.mk _ (Op.binOp _ _ _ _ _) _ _ _ _ :: _) _ _); refine KL_cmp (by rfl) _ _ _ _ _ rfl _ _ rfl rfl ?_) | ((with_reducible change wpList _ _ _ (Oper.mk _ (Op.call _) _ _ _ _ :: _) _ _); refine KL_copy hK (by rfl) _ _ _ _ rfl _ _ _ _ _ _ _ _ rfl rfl _ _ (by first | exact Nat.min_eq_left (by first | decide | omega) | exact Nat.min_eq_right (by first | decide | omega)) (by first | exact Nat.mul_one _ | (conv => lhs; simp only [Nat.reduceMul])) ?_; clear hK; intro w hK) | ((with_reducible change wpList _ _ _ (Oper.mk _ (Op.index _ _ _) _ _ _ _ :: _) _ _); refine KL_index (by rfl) _ _ _ rfl _ rfl _ rfl _ (by conv => lhs; simp only [Int.reduceToNat, Int.toNat_natCast]) (by first | decide | omega) (by first | decide | omega) ?_) | ((with_reducible change wpList _ _ _ (Oper.mk _ (Op.sliceToArrayPointer _ _) _ _ _ _ :: _) _ _); refine KL_arr (by rfl) _ _ rfl _ _ _ rfl (by first | decide | omega) ?_)) | (go_at_call 43; refine (there_c hK).mono ?_; rintro r w1 ⟨rfl, hK'⟩; clear hK; have hK := hK'; clear hK') | (go_at_call 47; refine (HND.out _ _ _ hK).mono ?_; rintro r w1 ⟨rfl, v, Mv, ps, MM, hS, hR, hK'⟩; clear hK; have hK := hK'; clear hK'))
  go_ret2
  exact ⟨x, _, v, Mv, ps, MM, HI.out, rfl, rfl, by rw [HK.out]; rfl, hS, hR, hK.tl rfl⟩
end Go.Proofs.Ytpkhomfblilkhaa.E
