/- The iterator of victim: what it hands its yield, for every row of whole numbers and every open place. -/
import Derived.Test.YtcpkbhoocblpjaaV0
import Derived.RangeFuncNested
import Derived.RangeFuncBound
import Derived.RangeFuncCalls
import Derived.RangeFuncLeaves
import Derived.RangeFuncBox
import Derived.Shelf.Abstract
import Derived.Shelf.RegionOpen
import Derived.OwnWalkIn
import Derived.TacticsInMore
import Derived.LoopNIn
import Derived.LoopIn
namespace Go.Proofs.Ytcpkbhoocblpjaa
open Go.RowKit Go.Shelf

attribute [local go_sem] Oper.semAt_some

/-- What has come of the first k places: those that may be picked. -/
def good (op : Int) (p : Nat × Int) : Bool := decide (1 ≤ p.2) && decide ((p.1 : Int) ≠ op)
def cand (zs : List Int) (op : Int) : Nat → List (Nat × Int)
  | 0 => []
  | k + 1 => if good op (k, zs[k]?.getD 0) then cand zs op k ++ [(k, zs[k]?.getD 0)] else cand zs op k
theorem cand_len (zs : List Int) (op : Int) (k : Nat) : (cand zs op k).length ≤ k := by
  induction k with
  | zero => exact Nat.le_refl _
  | succ k ih => unfold cand; split <;> (try simp) <;> omega
theorem cand_yes {zs : List Int} {op : Int} {k : Nat} (h1 : 1 ≤ zs[k]?.getD 0) (h2 : ((k : Int) != op) = true) : cand zs op (k + 1) = cand zs op k ++ [(k, zs[k]?.getD 0)] := by
  have hg : good op (k, zs[k]?.getD 0) = true := by simp only [good, h1, decide_true, Bool.true_and]; simpa using h2
  show (if good op (k, zs[k]?.getD 0) then _ else _) = _
  rw [if_pos hg]
theorem cand_no1 {zs : List Int} {op : Int} {k : Nat} (h2 : ((k : Int) != op) = false) : cand zs op (k + 1) = cand zs op k := by
  have hg : ¬ good op (k, zs[k]?.getD 0) = true := by simp only [good]; simp at h2; simp [h2]
  show (if good op (k, zs[k]?.getD 0) then _ else _) = _
  rw [if_neg hg]
theorem cand_no2 {zs : List Int} {op : Int} {k : Nat} (h1 : ¬ 1 ≤ zs[k]?.getD 0) : cand zs op (k + 1) = cand zs op k := by
  have hg : ¬ good op (k, zs[k]?.getD 0) = true := by simp only [good, h1]; simp
  show (if good op (k, zs[k]?.getD 0) then _ else _) = _
  rw [if_neg hg]

/-- What a round keeps: all below n₀, and the box Bo. -/
def KpB (n₀ Bo : Nat) (W W' : World) : Prop := Below n₀ W W' ∧ ∀ v, W.cell? ⟨Bo, 0, none⟩ = some v → W'.cell? ⟨Bo, 0, none⟩ = some v
theorem KpB.refl (n₀ Bo : Nat) (W : World) : KpB n₀ Bo W W := ⟨Below.refl _ _, fun _ h => h⟩
theorem KpB.trans {n₀ Bo : Nat} {A B C : World} (h : KpB n₀ Bo A B) (k : KpB n₀ Bo B C) : KpB n₀ Bo A C := ⟨h.1.trans k.1, fun v hv => k.2 v (h.2 v hv)⟩
theorem KpB.b {n₀ Bo : Nat} {w : World} (hn : n₀ ≤ w.heap.size) (W : World) (l : Nat) (o o' : Obj) (hl : w.heap.size ≤ l) (h : W.heap[l]? = some o) (hc : o.isCells = false) (hw : o.isWalk = false) : KpB n₀ Bo W (W.putObj l o') :=
  ⟨belowK_b hn W l o o' hl h hc hw, fun _ hv => cell_kept hv (grownBy_putObj' W l o') (fun r e => by cases e; exact ⟨_, h, hc⟩)⟩
theorem KpB.setCell {n₀ Bo : Nat} (W : World) {b : Nat} (hb : n₀ ≤ b) (hne : b ≠ Bo) (v : Value) : KpB n₀ Bo W (W.setCell ⟨b, 0, none⟩ v) :=
  ⟨(Below.refl n₀ W).setCell (p := ⟨b, 0, none⟩) hb _, fun _ hv => (World.cell?_setCell_other _ _ _ _ (by intro e; injection e with e1; exact hne e1)).trans hv⟩

set_option maxRecDepth 100000 in
set_option maxHeartbeats 2000000 in
theorem may1_in (F : Fence) (n : Nat) (h8 : F.fn 40) (hro : F.round = none) (hn : 1 ≤ n) (l Bs Bo n₀ b off len cap : Nat) (op : Int) (zs : List Int) (hreach : len * 8 ≤ 140737488351232) (hb : b < n₀) (J Jx : List (Nat × Int) → World → Prop)
    (hY : ∀ pre x W, J pre W → pre.length < len → YieldAt F (n - 1) Try.prog l #[.int .i64 (x.1 : Int), .int .i64 x.2] W fun e W' =>
      (e = .returned (.bool true) ∧ J (pre ++ [x]) W' ∧ KpB n₀ Bo W W') ∨ (e = .returned (.bool false) ∧ Jx (pre ++ [x]) W'))
    (W : World) (hBs : W.cell? ⟨Bs, 0, none⟩ = some (.slice (some ⟨b, off, none⟩) len cap)) (hBo : W.cell? ⟨Bo, 0, none⟩ = some (.int .i64 op)) (hc : ∀ j, j < len → W.cell? ⟨b, off + j, none⟩ = some (.int .i64 (zs[j]?.getD 0))) (h0 : J [] W) :
    CallsIn F n Try.prog 40 #[.func (.yield l) #[] #[], .pointer (some ⟨Bs, 0, none⟩), .pointer (some ⟨Bo, 0, none⟩)] W fun e W' => (∃ v, e = .returned v) ∧
      ((∃ ys, ys = cand zs op len ∧ J ys W') ∨ (∃ pre, True ∧ Jx pre W')) := by
  refine callsIn_of_wp Try.func40 rfl h8 ?_ hro
  simp only [Try.ntmps40, List.size_toArray, List.length_cons, List.length_nil, Nat.reduceAdd, Nat.reduceSub, Array.replicate_succ, Array.replicate_zero, List.push_toArray, List.append_toArray, List.nil_append, List.cons_append]
  gi_wp2
  gi_loopw [8] (fun i wr => ∃ k : Nat, k ≤ len ∧ i = .int .i64 k ∧ J (cand zs op k) wr ∧ KpB n₀ Bo W wr)
    (fun i _ => len - (intOf i).toNat)
  case atStart => exact ⟨0, Nat.zero_le _, rfl, h0, KpB.refl _ _ _⟩
  case round =>
    obtain ⟨k, hk, rfl, hJs, hnx⟩ := hrel
    have hcx : k < len → wr.cell? ⟨b, off + k, none⟩ = some (.int .i64 (zs[k]?.getD 0)) := fun h => (hnx.1.cell (p := ⟨b, off + k, none⟩) hb).trans (hc k h)
    have hox : wr.cell? ⟨Bo, 0, none⟩ = some (.int .i64 op) := hnx.2 _ hBo
    by_cases hlt : k < len
    · have hcx' := hcx hlt
      clear hcx
      by_cases h1 : 1 ≤ zs[k]?.getD 0
      · by_cases h2 : ((k : Int) != op) = true
        · have HC := Lib.hid (cand_yes (zs := zs) h1 h2)
          obtain ⟨fn, tmps, assign, body, hy, hR⟩ := hY _ (k, zs[k]?.getD 0) wr hJs (by have := cand_len zs op k; omega)
          dsimp only at hy
          gi_wp2
          refine hR.mono ?_
          rintro e W3 (⟨rfl, hJ3, hk3⟩ | ⟨rfl, hJx3⟩)
          · gi_wp2
            go_roundw
            case rel => exact ⟨k + 1, by omega, by simp, by rw [HC.out]; exact hJ3, hnx.trans hk3⟩
            case measure => simp [intOf]; omega
          · gi_wp2
            refine bodyPost_ret (results_none rfl _ _ _) rfl ?_
            exact ⟨⟨_, rfl⟩, .inr ⟨_, trivial, hJx3⟩⟩
        · have h3 : ((k : Int) != op) = false := by simpa using h2
          have HC := Lib.hid (cand_no1 (zs := zs) h3)
          clear h2
          gi_wp2
          refine ⟨fun _ h => (by cases h), ?_⟩
          gi_wp2
          go_roundw
          case rel => exact ⟨k + 1, by omega, by simp, by rw [HC.out]; exact hJs, hnx⟩
          case measure => simp [intOf]; omega
      · have HC := Lib.hid (cand_no2 (op := op) h1)
        gi_wp2
        refine ⟨fun _ h => (by cases h), ?_⟩
        gi_wp2
        go_roundw
        case rel => exact ⟨k + 1, by omega, by simp, by rw [HC.out]; exact hJs, hnx⟩
        case measure => simp [intOf]; omega
    · obtain rfl : k = len := by omega
      gi_wp2
      go_end0
      exact ⟨⟨_, rfl⟩, .inl ⟨_, rfl, hJs⟩⟩


/-- The slice value sv holds the numbers zs in a block below n₀; or there are none. -/
def Ints (n₀ : Nat) (W : World) (sv : Value) (zs : List Int) : Prop :=
  (zs = [] ∧ ∃ ao cap, sv = .slice ao 0 cap ∧ (ao = none → cap = 0)) ∨ ∃ b off cap, sv = .slice (some ⟨b, off, none⟩) zs.length cap ∧ b < n₀ ∧ ∀ j, j < zs.length → W.cell? ⟨b, off + j, none⟩ = some (.int .i64 (zs[j]?.getD 0))
theorem Ints.below {n₀ : Nat} {A B : World} (h : Below n₀ A B) {sv : Value} {zs : List Int} : Ints n₀ A sv zs → Ints n₀ B sv zs
  | .inl e => .inl e
  | .inr ⟨b, off, cap, e, hb, hc⟩ => .inr ⟨b, off, cap, e, hb, fun j hj => (h.cell (p := ⟨b, off + j, none⟩) hb).trans (hc j hj)⟩
theorem Ints.mono {n₀ n₁ : Nat} {A : World} (h : n₀ ≤ n₁) {sv : Value} {zs : List Int} : Ints n₀ A sv zs → Ints n₁ A sv zs
  | .inl e => .inl e
  | .inr ⟨b, off, cap, e, hb, hc⟩ => .inr ⟨b, off, cap, e, by omega, hc⟩

set_option maxRecDepth 100000 in
set_option maxHeartbeats 1000000 in
theorem may1_nil_in (F : Fence) (n : Nat) (h8 : F.fn 40) (hro : F.round = none) (ao : Option Addr) (cap : Nat) (l Bs Bo : Nat) (J : List (Nat × Int) → World → Prop) (W : World) (hBs : W.cell? ⟨Bs, 0, none⟩ = some (.slice ao 0 cap)) (h0 : J [] W) :
    CallsIn F n Try.prog 40 #[.func (.yield l) #[] #[], .pointer (some ⟨Bs, 0, none⟩), .pointer (some ⟨Bo, 0, none⟩)] W fun e W' => (∃ v, e = .returned v) ∧ J [] W' := by
  refine callsIn_of_wp Try.func40 rfl h8 ?_ hro
  simp only [Try.ntmps40, List.size_toArray, List.length_cons, List.length_nil, Nat.reduceAdd, Nat.reduceSub, Array.replicate_succ, Array.replicate_zero, List.push_toArray, List.append_toArray, List.nil_append, List.cons_append]
  gi_wp2
  gi_loopw [8] (fun i wr => i = .int .i64 0 ∧ J [] wr) (fun _ _ => 0)
  case atStart => exact ⟨rfl, h0⟩
  case round =>
    obtain ⟨rfl, hJs⟩ := hrel
    gi_wp2
    go_end0
    exact ⟨⟨_, rfl⟩, hJs⟩

set_option maxHeartbeats 1000000 in
theorem may_in (F : Fence) (n : Nat) (h5 : F.fn 32) (hro : F.round = none) (a : Option Addr) (len cap : Nat) (op : Int) (w : World) :
    CallsIn F n Try.prog 32 #[.slice a len cap, .int .i64 op] w fun e w' => e = .returned (.func (.func 40) #[] #[.pointer (some ⟨w.heap.size, 0, none⟩), .pointer (some ⟨w.heap.size + 1, 0, none⟩)]) ∧ w' = (w.alloc (.cells #[.slice a len cap] 22)).alloc (.cells #[.int .i64 op] 3) := by
  refine callsIn_of_wp Try.func32 rfl h5 ?_ hro
  simp only [Try.ntmps32, List.size_toArray, List.length_cons, List.length_nil, Nat.reduceAdd, Nat.reduceSub, Array.replicate_succ, Array.replicate_zero, List.push_toArray, List.append_toArray, List.nil_append, List.cons_append]
  gi_wp2
  go_ret
  exact ⟨rfl, rfl⟩

theorem may_stops (F : Fence) (n : Nat) (h8 : F.fn 40) (hro : F.round = none) (hn : 1 ≤ n) (Bs Bo n₀ : Nat) (sv : Value) (op : Int) (zs : List Int) (hreach : zs.length * 8 ≤ 140737488351232) (w : World) (hBs : Bs < w.heap.size) (hn₀ : n₀ ≤ w.heap.size)
    (hBo : Bo < w.heap.size) (hc : w.cell? ⟨Bs, 0, none⟩ = some sv) (hco : w.cell? ⟨Bo, 0, none⟩ = some (.int .i64 op)) (hI : Ints n₀ w sv zs) :
    SeqStopsK F n Try.prog 40 #[.pointer (some ⟨Bs, 0, none⟩), .pointer (some ⟨Bo, 0, none⟩)] (fun x : Nat × Int => #[Value.int .i64 (x.1 : Int), Value.int .i64 x.2]) (KpB n₀ Bo) (fun ys => ys = cand zs op zs.length)
      (fun _ => True) zs.length w := fun l J Jx W hW _ _ hY h0 => by
  have hc' := (hW.cell (p := ⟨Bs, 0, none⟩) hBs).trans hc
  have hco' := (hW.cell (p := ⟨Bo, 0, none⟩) hBo).trans hco
  rcases hI.below (hW.mono hn₀) with ⟨rfl, ao, cap, rfl, _⟩ | ⟨b, off, cap, rfl, hb, hcs⟩
  · exact (may1_nil_in F n h8 hro ao cap l Bs Bo J W hc' h0).mono fun e W' ⟨he, hj⟩ => ⟨he, .inl ⟨_, rfl, hj⟩⟩
  · exact may1_in F n h8 hro hn l Bs Bo n₀ b off zs.length cap op zs hreach hb J Jx hY W hc' hco' hcs h0

theorem two_boxes {W : World} {a b : Nat} (hab : a ≠ b) {u v : Value} (u' v' : Value) (hc : W.cell? ⟨a, 0, none⟩ = some u) (hf : W.frozen? ⟨a, 0, none⟩ = false) (hc2 : W.cell? ⟨b, 0, none⟩ = some v) (hf2 : W.frozen? ⟨b, 0, none⟩ = false) :
    (((W.setCell ⟨a, 0, none⟩ u').setCell ⟨b, 0, none⟩ v').cell? ⟨a, 0, none⟩ = some u' ∧ ((W.setCell ⟨a, 0, none⟩ u').setCell ⟨b, 0, none⟩ v').frozen? ⟨a, 0, none⟩ = false) ∧
    (((W.setCell ⟨a, 0, none⟩ u').setCell ⟨b, 0, none⟩ v').cell? ⟨b, 0, none⟩ = some v' ∧ ((W.setCell ⟨a, 0, none⟩ u').setCell ⟨b, 0, none⟩ v').frozen? ⟨b, 0, none⟩ = false) := by
  have hne : (⟨b, 0, none⟩ : Addr) ≠ ⟨a, 0, none⟩ := by intro e; injection e with e1; exact hab e1.symm
  have hne' : (⟨a, 0, none⟩ : Addr) ≠ ⟨b, 0, none⟩ := fun e => hne e.symm
  refine ⟨⟨?_, ?_⟩, ?_, ?_⟩
  · rw [World.cell?_setCell_other _ _ _ _ hne, World.cell?_setCell_same' _ _ _ (by rw [hc]; rfl)]
  · rw [World.frozen?_setCell, World.frozen?_setCell]; exact hf
  · exact World.cell?_setCell_same' _ _ _ (by rw [World.cell?_setCell_other _ _ _ _ hne', hc2]; rfl)
  · rw [World.frozen?_setCell, World.frozen?_setCell]; exact hf2

/-! The pick: the fold of the body over what comes. -/
def pstep (s : Int × Int) (p : Nat × Int) : Int × Int := if s.1 < 0 ∨ p.2 < s.2 then ((p.1 : Int), p.2) else s
def pfold (l : List (Nat × Int)) : Int × Int := l.foldl pstep (-1, 0)
theorem pfold_snoc (l : List (Nat × Int)) (x : Nat × Int) : pfold (l ++ [x]) = pstep (pfold l) x := by simp [pfold]
theorem pstep_yes {s : Int × Int} {p : Nat × Int} (h : s.1 < 0 ∨ p.2 < s.2) : pstep s p = ((p.1 : Int), p.2) := by unfold pstep; rw [if_pos h]
theorem pstep_no {s : Int × Int} {p : Nat × Int} (h : ¬ (s.1 < 0 ∨ p.2 < s.2)) : pstep s p = s := by unfold pstep; rw [if_neg h]
def pick (zs : List Int) (op : Int) : Int := (pfold (cand zs op zs.length)).1

set_option maxRecDepth 100000 in
set_option maxHeartbeats 2000000 in
theorem pick_in (F : Fence) (n : Nat) (h4 : F.fn 15) (h6 : F.fn 32) (h8 : F.fn 40) (hro : F.round = none) (hn : 3 ≤ n) (a : Option Addr) (len cap : Nat) (op : Int) (zs : List Int) (hreach : zs.length * 8 ≤ 140737488351232) (w : World) (hI : Ints w.heap.size w (.slice a len cap) zs) :
    CallsIn F n Try.prog 15 #[.slice a len cap, .int .i64 op] w fun e W' => e = .returned (.int .i64 (pick zs op)) ∧ Below w.heap.size w W' := by
  have h1 : 1 ≤ n := by omega
  refine callsIn_of_wp_marks Try.func15 rfl h4 ?_ hro
  simp only [Try.ntmps15, List.size_toArray, List.length_cons, List.length_nil, Nat.reduceAdd, Nat.reduceSub, Array.replicate_succ, Array.replicate_zero, List.push_toArray, List.append_toArray, List.nil_append, List.cons_append]
  gi_wp2_with (gi_at_call 32; refine (may_in F (n - 1) h6 hro _ _ _ _ _).mono ?_; rintro e w' ⟨rfl, rfl⟩)
  have bB := Boxed.new w 3 (.int .i64 (-1))
  have bL := Boxed.new (w.alloc (.cells #[.int .i64 (-1)] 3)) 3 (.int .i64 0)
  have bN := Boxed.new ((w.alloc (.cells #[.int .i64 (-1)] 3)).alloc (.cells #[.int .i64 0] 3)) 22 (.slice a len cap)
  have bO := Boxed.new (((w.alloc (.cells #[.int .i64 (-1)] 3)).alloc (.cells #[.int .i64 0] 3)).alloc (.cells #[.slice a len cap] 22)) 3 (.int .i64 op)
  simp only [World.size_alloc] at bL bN bO
  have hB0 : Below w.heap.size w ((((w.alloc (.cells #[.int .i64 (-1)] 3)).alloc (.cells #[.int .i64 0] 3)).alloc (.cells #[.slice a len cap] 22)).alloc (.cells #[.int .i64 op] 3)) :=
    ((((Below.refl _ w).alloc (Nat.le_refl _) _).alloc (by simp) _).alloc (by simp; omega) _).alloc (by simp; omega) _
  refine wpIn_rangeFunc_ownG hro h1 (gf := 40) (lb := #[.pointer (some ⟨w.heap.size + 1 + 1, 0, none⟩), .pointer (some ⟨w.heap.size + 1 + 1 + 1, 0, none⟩)]) rfl h8 (enters_of Try.func40 (by kernel_rfl) rfl)
    (may_stops F (n - 1) h8 hro (by omega) (w.heap.size + 1 + 1) (w.heap.size + 1 + 1 + 1) w.heap.size _ op zs hreach _ (by simp) (by simp; omega) (by simp) (bN.alloc _).cell bO.cell (hI.below hB0)) KpB.trans (KpB.b (by simp; omega)) (Below.refl _ _) (fun _ => rfl)
    (fun pre W => ((W.cell? ⟨w.heap.size, 0, none⟩ = some (.int .i64 (pfold pre).1) ∧ W.frozen? ⟨w.heap.size, 0, none⟩ = false) ∧ (W.cell? ⟨w.heap.size + 1, 0, none⟩ = some (.int .i64 (pfold pre).2) ∧ W.frozen? ⟨w.heap.size + 1, 0, none⟩ = false)) ∧ Below w.heap.size w W)
    (fun _ _ _ => False)
    (OwnFrom.and (Own.from (fun s A B row hs hg hr => ⟨⟨cell_kept hs.1.1 hg hr, (frozen_kept hs.1.1 hg hr).trans hs.1.2⟩, ⟨cell_kept hs.2.1 hg hr, (frozen_kept hs.2.1 hg hr).trans hs.2.2⟩⟩) _) (ownFrom_below (Nat.le_refl _) (by simp; omega)))
    (fun _ _ _ _ _ hs _ _ => hs)
    ⟨⟨⟨(((bB.alloc _).alloc _).alloc _).cell, (((bB.alloc _).alloc _).alloc _).frozen⟩, ⟨((bL.alloc _).alloc _).cell, ((bL.alloc _).alloc _).frozen⟩⟩, hB0⟩
    (fun x => { tmps := #[.slice a len cap, .int .i64 op, undef, undef, .int .i64 0, .pointer (some ⟨w.heap.size, 0, none⟩), .pointer (some ⟨w.heap.size + 1, 0, none⟩), .int .i64 (x.1 : Int), .int .i64 x.2, .slice a len cap, .int .i64 op, .func (.func 40) #[] #[.pointer (some ⟨w.heap.size + 1 + 1, 0, none⟩), .pointer (some ⟨w.heap.size + 1 + 1 + 1, 0, none⟩)], .int .i64 (x.1 : Int), .int .i64 x.2, undef, undef, undef, undef, undef, undef, undef, undef, undef, undef], defers := [] }) ?assign ?body ?done ?stop
  case assign =>
    intro l x W K hK
    gi_wp2
    exact hK
  case body =>
    rintro l pre x W ⟨⟨⟨hc, hf⟩, ⟨hc2, hf2⟩⟩, hB⟩ _
    have hsnoc := Lib.hid (pfold_snoc pre x)
    have htb := two_boxes (show w.heap.size ≠ w.heap.size + 1 by omega) (.int .i64 (x.1 : Int)) (.int .i64 x.2) hc hf hc2 hf2
    have HT := Lib.hid htb
    clear htb
    by_cases h1 : (pfold pre).1 < 0
    · have HS := Lib.hid (pstep_yes (s := pfold pre) (p := x) (.inl h1))
      gi_wp2
      refine ⟨((KeepsOthers.setCell _ _ _).trans (KeepsOthers.setCell _ _ _)).from _, (KpB.setCell W (Nat.le_refl _) (by omega) _).trans (KpB.setCell _ (by omega) (by omega) _), ?_, (hB.setCell (p := ⟨w.heap.size, 0, none⟩) (Nat.le_refl _) _).setCell (p := ⟨w.heap.size + 1, 0, none⟩) (by simp) _⟩
      rw [hsnoc.out, HS.out]
      exact HT.out
    · by_cases h2 : x.2 < (pfold pre).2
      · have HS := Lib.hid (pstep_yes (s := pfold pre) (p := x) (.inr h2))
        gi_wp2
        refine ⟨((KeepsOthers.setCell _ _ _).trans (KeepsOthers.setCell _ _ _)).from _, (KpB.setCell W (Nat.le_refl _) (by omega) _).trans (KpB.setCell _ (by omega) (by omega) _), ?_, (hB.setCell (p := ⟨w.heap.size, 0, none⟩) (Nat.le_refl _) _).setCell (p := ⟨w.heap.size + 1, 0, none⟩) (by simp) _⟩
        rw [hsnoc.out, HS.out]
        exact HT.out
      · have HS := Lib.hid (pstep_no (s := pfold pre) (p := x) (by omega))
        gi_wp2
        refine ⟨KeepsFrom.refl _ _, KpB.refl _ _ _, ?_, hB⟩
        rw [hsnoc.out, HS.out]
        exact ⟨⟨hc, hf⟩, hc2, hf2⟩
  case done =>
    rintro D ys W hD rfl ⟨⟨⟨hc, _⟩, _⟩, hB⟩ hK
    gi_wp2
    refine ⟨by simp, .inl ⟨_, _, rfl, run_takeDeferred hK, ?_⟩⟩
    exact ⟨_, results_tmp rfl _ _ _, rfl, hB.trans (belowK_b (w := w) (Nat.le_refl _) W D _ _ (by simp at hD; omega) hK rfl rfl)⟩
  case stop =>
    rintro D c pre W _ _ h _
    exact h.elim

/-- victim.Pick: for every row of numbers and every open place. -/
theorem pick_p (a : Option Addr) (len cap : Nat) (op : Int) (zs : List Int) (hreach : zs.length * 8 ≤ 140737488351232) (w : World) (hI : Ints w.heap.size w (.slice a len cap) zs) :
    Calls Try.prog 15 #[.slice a len cap, .int .i64 op] w fun e W' => e = .returned (.int .i64 (pick zs op)) ∧ Below w.heap.size w W' :=
  callsIn_wide.1 (pick_in Fence.wide 3 trivial trivial trivial rfl (by omega) a len cap op zs hreach w hI)
#print axioms pick_p
end Go.Proofs.Ytcpkbhoocblpjaa
