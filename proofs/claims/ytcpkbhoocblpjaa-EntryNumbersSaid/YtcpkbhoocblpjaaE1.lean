/- Small contracts of entry and its reference. -/
import Derived.Test.YtcpkbhoocblpjaaE0
import Derived.Deep.QuietTactic
import Derived.BigQuiet
import Derived.Lib.BytesEntry
import Derived.Laws.BitsAllLaws
namespace Go.Proofs.Ytcpkbhoocblpjaa.E
set_option linter.all false
open Go Go.RowKit

theorem inB_t {n a b : Int} (h1 : a ≤ n) (h2 : n ≤ b) : true = inB n a b := by simp [inB, h1, h2]
theorem inB_f1 {n a b : Int} (h1 : n < a) : false = inB n a b := by simp [inB]; omega
theorem inB_f2 {n a b : Int} (h1 : b < n) : false = inB n a b := by simp [inB]; omega
set_option maxHeartbeats 400000 in
theorem within_p (n a b : Int) (w : World) : Calls Try.prog 33 #[.int .i64 n, .int .i64 a, .int .i64 b] w fun e w' => e = .returned (.bool (inB n a b)) ∧ w' = w := by
  by_cases h1 : a ≤ n
  · by_cases h2 : n ≤ b
    · go_enter Try.func33, Try.ntmps33
      go_wp2
      go_ret
      exact ⟨rbool (inB_t h1 h2), rfl⟩
    · go_enter Try.func33, Try.ntmps33
      go_wp2
      go_ret
      exact ⟨rbool (inB_f2 (by omega)), rfl⟩
  · go_enter Try.func33, Try.ntmps33
    go_wp2
    go_ret
    exact ⟨rbool (inB_f1 (by omega)), rfl⟩
set_option maxHeartbeats 400000 in
theorem within_r (n a b : Int) (w : World) : Calls Try.prog 42 #[.int .i64 n, .int .i64 a, .int .i64 b] w fun e w' => e = .returned (.bool (inB n a b)) ∧ w' = w := by
  by_cases h1 : a ≤ n
  · by_cases h2 : n ≤ b
    · go_enter Try.func42, Try.ntmps42
      go_wp2
      go_ret
      exact ⟨rbool (inB_t h1 h2), rfl⟩
    · go_enter Try.func42, Try.ntmps42
      go_wp2
      go_ret
      exact ⟨rbool (inB_f2 (by omega)), rfl⟩
  · go_enter Try.func42, Try.ntmps42
    go_wp2
    go_ret
    exact ⟨rbool (inB_f1 (by omega)), rfl⟩


set_option maxHeartbeats 400000 in
theorem four_r (n : Int) (w : World) : Calls Try.prog 36 #[.int .i64 n] w fun e w' => e = .returned (.slice (some ⟨w.heap.size, 0, none⟩) 4 4) ∧ Made w w' 5 (U (be4 n)) := by
  go_enter Try.func36, Try.ntmps36
  go_wp2
  go_ret
  refine ⟨rfl, ?_⟩
  have := made_alloc w 5 #[.int .u8 (n / 16777216 % 256), .int .u8 (n / 65536 % 256), .int .u8 (n / 256 % 256), .int .u8 (n % 256)]
  exact this

theorem be4_length (n : Int) : (be4 n).length = 4 := rfl
set_option maxHeartbeats 400000 in
theorem four_p0 (n : Int) (b off len cap T : Nat) (l : List Int) (w : World) (hb : Blk w b T (U l)) (hfit : off + 4 ≤ l.length) (hl : 4 ≤ len) :
    Calls Try.prog 34 #[.slice (some ⟨b, off, none⟩) len cap, .int .i64 n] w fun e w' => e = .returned (.tuple #[]) ∧ Kn (· = b) w w' [(b, T, U (splice l off (be4 n)))] := by
  have hK0 : Kn (· = b) w w [(b, T, U l)] := ⟨Only.refl _ _, by simpa using hb, by simp, by simp⟩
  obtain ⟨w0, h0⟩ : ∃ w0, w0 = w := ⟨_, rfl⟩
  have hK1 : Kn (· = b) w0 w [(b, T, U l)] := by rw [h0]; exact hK0
  suffices hh : Calls Try.prog 34 #[.slice (some ⟨b, off, none⟩) len cap, .int .i64 n] w fun e w' => e = .returned (.tuple #[]) ∧ Kn (· = b) w0 w' [(b, T, U (splice l off (be4 n)))] by rw [h0] at hh; exact hh
  clear h0 hK0 hb
  go_enter Try.func34, Try.ntmps34
  go_wp2_with fail
  go_loopw [5] (fun i wr => ∃ k : Nat, k ≤ 4 ∧ i = .int .i64 k ∧ Kn (· = b) w0 wr [(b, T, U (splice l off ((be4 n).take k)))]) (fun i _ => 4 - (intOf i).toNat)
  case atStart => exact ⟨0, by omega, rfl, by rw [List.take_zero, splice_nil]; exact hK1⟩
  case round =>
    clear hK1
    obtain ⟨k, hk, rfl, hK⟩ := hrel
    by_cases hlt : k < 4
    · have hsl : (splice l off ((be4 n).take k)).length = l.length := length_splice _ _ _ (by simp [be4]; omega)
      have step : ∀ v, (be4 n)[k]? = some v → (splice l off ((be4 n).take k)).set (off + k) v = splice l off ((be4 n).take (k + 1)) := fun v hv => splice_succ l (be4 n) off k v hv (by simp [be4]; omega)
      have put : ∀ v, (be4 n)[k]? = some v → Put (U (splice l off ((be4 n).take k))) (off + k) (.int .u8 v) (U (splice l off ((be4 n).take (k + 1)))) := fun v hv => ⟨by rw [U_set, step v hv], by simp [hsl]; omega⟩
      generalize hL : splice l off ((be4 n).take k) = L at hK hsl step put
      generalize hL2 : splice l off ((be4 n).take (k + 1)) = L2 at step put
      clear step
      have hcase : k = 0 ∨ k = 1 ∨ k = 2 ∨ k = 3 := by omega
      rcases hcase with rfl | rfl | rfl | rfl
      all_goals
        have put := put _ rfl
        try simp only [Nat.add_zero] at put
        clear hL
        go_wp2_with ((with_reducible change wpList _ _ _ (_ :: _) _ _); first | ((with_reducible change wpList _ _ _ (Oper.mk _ (Op.load _ _) _ _ _ _ :: _) _ _); first | (refine KL_load1 hK (by rfl) _ _ rfl _ _ rfl ?_) | (refine KL_load hK (by rfl) _ _ rfl _ _ rfl ?_)) | ((with_reducible change wpList _ _ _ (Oper.mk _ (Op.store _ _ _) _ _ _ _ :: _) _ _); first | (refine KL_store1 hK (by rfl) _ _ _ rfl _ _ rfl _ (by conv => lhs; whnf) (by rfl) ?_; clear hK; intro w hK) | (refine KL_store hK (by rfl) _ _ _ rfl _ _ rfl _ rfl ?_; clear hK; intro w hK)) | ((with_reducible change wpList _ _ _ (Oper.mk _ (Op.alloc _) _ _ _ _ :: _) _ _); refine KL_alloc hK (by rfl) _ rfl ?_; clear hK; intro b w hK) | ((with_reducible change wpList _ _ _ (Oper.mk _ (Op.box _ _) _ _ _ _ :: _) _ _); refine KL_box hK (by rfl) _ _ rfl _ (by conv => lhs; whnf) ?_; clear hK; intro b w hK) | ((with_reducible change wpList _ _ _ (Oper.mk _ (Op.build _ _) _ _ _ _ :: _) _ _); first | (refine KL_build0 (by rfl) _ rfl ?_) | (refine KL_build1 (by rfl) _ _ _ rfl _ (by conv => lhs; whnf) ?_) | (refine KL_build2 (by rfl) _ _ _ _ _ rfl _ (by conv => lhs; whnf) _ (by conv => lhs; whnf) ?_) | (refine KL_build3 (by rfl) _ _ _ _ _ _ _ rfl _ (by conv => lhs; whnf) _ (by conv => lhs; whnf) _ (by conv => lhs; whnf) ?_) | (refine KL_build4 (by rfl) _ _ _ _ _ _ _ _ _ rfl _ (by conv => lhs; whnf) _ (by conv => lhs; whnf) _ (by conv => lhs; whnf) _ (by conv => lhs; whnf) ?_) | (refine KL_build5 (by rfl) _ _ _ _ _ _ _ _ _ _ _ rfl _ (by conv => lhs; whnf) _ (by conv => lhs; whnf) _ (by conv => lhs; whnf) _ (by conv => lhs; whnf) _ (by conv => lhs; whnf) ?_)) | ((with_reducible change wpList _ _ _ (Oper.mk _ (Op.binOp _ _ _ _ _) _ _ _ _ :: _) _ _); refine KL_cmp (by rfl) _ _ _ _ _ rfl _ _ rfl rfl ?_) | ((with_reducible change wpList _ _ _ (Oper.mk _ (Op.call _) _ _ _ _ :: _) _ _); refine KL_copy hK (by rfl) _ _ _ _ rfl _ _ _ _ _ _ _ _ rfl rfl _ _ (by first | exact Nat.min_eq_left (by first | decide | omega) | exact Nat.min_eq_right (by first | decide | omega)) (by first | exact Nat.mul_one _ | (conv => lhs; simp only [Nat.reduceMul])) ?_; clear hK; intro w hK) | ((with_reducible change wpList _ _ _ (Oper.mk _ (Op.index _ _ _) _ _ _ _ :: _) _ _); refine KL_index (by rfl) _ _ _ rfl _ rfl _ rfl _ (by conv => lhs; simp only [Int.reduceToNat, Int.toNat_natCast]) (by first | decide | omega) (by first | decide | omega) ?_) | ((with_reducible change wpList _ _ _ (Oper.mk _ (Op.sliceToArrayPointer _ _) _ _ _ _ :: _) _ _); refine KL_arr (by rfl) _ _ rfl _ _ _ rfl (by first | decide | omega) ?_))
        refine ⟨⟨_, ?_, rfl, ?_⟩, by simp [intOf]⟩
        · decide
        · rw [hL2]; exact hK
    · obtain rfl : k = 4 := by omega
      go_wp2_with fail
      go_end0
      exact ⟨rfl, hK⟩
theorem four_p {F : Nat → Prop} {w0 w : World} {L L' : Mem} (hK : Kn F w0 w L) (n : Int) (b off len cap : Nat) {T : Nat} {l : List Int} {N : Nat} [hh : Has L b T (U l)] [hn : Ln l N] (hfit : off + 4 ≤ N) (hl : 4 ≤ len) {l' : List Int} (hs : splice l off (be4 n) = l') [hu : Upd L b T (U l) (U l') L'] :
    Calls Try.prog 34 #[.slice (some ⟨b, off, none⟩) len cap, .int .i64 n] w fun e w' => e = .returned (.tuple #[]) ∧ Kn F w0 w' L' := by
  subst hs
  exact (four_p0 n b off len cap T l w hK.has (hn.out ▸ hfit) hl).mono fun e w' ⟨h1, h2⟩ => ⟨h1, hK.callW h2⟩
def rd4 (x0 x1 x2 x3 : Int) : Int := x0 * 16777216 + x1 * 65536 + x2 * 256 + x3
theorem i64_or_nat (a b : Nat) (ha : a < 9223372036854775808) (hb : b < 9223372036854775808) : bits .or .i64 (a : Int) (b : Int) = ((a ||| b : Nat) : Int) := by
  have hx : a ||| b < 2 ^ 63 := Nat.or_lt_two_pow (by omega) (by omega)
  show IntKind.i64.wrap ((BitVec.ofInt 64 (a : Int) ||| BitVec.ofInt 64 (b : Int)).toNat : Int) = _
  rw [BitVec.toNat_or, ofInt_u64 a (by omega), ofInt_u64 b (by omega), IntKind.wrap_i64]
  omega
theorem or_sum (i : Nat) (m a b : Int) (hi : i < 63) (hm : m = ((2 ^ i : Nat) : Int)) (ha : 0 ≤ a) (ham : a < m) (hb : 0 ≤ b) (hbm : b * m + a < 9223372036854775808) : bits BinOp.or IntKind.i64 (b * m) a = b * m + a := by
  obtain ⟨x, rfl⟩ := Int.eq_ofNat_of_zero_le ha
  obtain ⟨y, rfl⟩ := Int.eq_ofNat_of_zero_le hb
  subst hm
  have h1 : (y : Int) * ((2 ^ i : Nat) : Int) = ((y * 2 ^ i : Nat) : Int) := by push_cast; rfl
  rw [h1] at hbm ⊢
  have h2 : x < 2 ^ i := by exact_mod_cast ham
  rw [i64_or_nat _ _ (by omega) (by omega), ← Nat.shiftLeft_eq, ← Nat.shiftLeft_add_eq_or_of_lt h2]
  push_cast; rfl
theorem w64 {x : Int} (h1 : 0 ≤ x) (h2 : x < 9223372036854775808) : wrap64 x = x := by unfold wrap64; omega
def acc4 (x0 x1 x2 : Int) (n : Int) : Nat → Int
  | 0 => 0
  | 1 => x0
  | 2 => x0 * 256 + x1
  | 3 => (x0 * 256 + x1) * 256 + x2
  | _ => n
def IsB (x : Int) : Prop := 0 ≤ x ∧ x < 256
theorem said_p (b off len cap : Nat) (x0 x1 x2 x3 : Int) (w : World) (c0 : w.cell? ⟨b, off, none⟩ = some (.int .u8 x0)) (c1 : w.cell? ⟨b, off + 1, none⟩ = some (.int .u8 x1)) (c2 : w.cell? ⟨b, off + 2, none⟩ = some (.int .u8 x2)) (c3 : w.cell? ⟨b, off + 3, none⟩ = some (.int .u8 x3)) (hl : 4 ≤ len) (hc : len ≤ cap)
    (b0 : IsB x0) (b1 : IsB x1) (b2 : IsB x2) (b3 : IsB x3) :
    Calls Try.prog 37 #[.slice (some ⟨b, off, none⟩) len cap] w fun e w' => e = .returned (.int .i64 (rd4 x0 x1 x2 x3)) ∧ w' = w := by
  have hl' : 4 ≤ cap := by omega
  go_enter Try.func37, Try.ntmps37
  go_wp2_with fail
  go_loopw [3, 9] (fun n i wr => ∃ k : Nat, k ≤ 4 ∧ i = .int .i64 k ∧ n = .int .i64 (acc4 x0 x1 x2 (rd4 x0 x1 x2 x3) k) ∧ wr = w) (fun _ i _ => 4 - (intOf i).toNat)
  case atStart => exact ⟨0, by omega, rfl, rfl, rfl⟩
  case round =>
    obtain ⟨k, hk, rfl, rfl, rfl⟩ := hrel
    by_cases hlt : k < 4
    · have hcase : k = 0 ∨ k = 1 ∨ k = 2 ∨ k = 3 := by omega
      rcases hcase with rfl | rfl | rfl | rfl
      all_goals simp only [acc4]
      · go_wp2_with fail
        refine ⟨⟨1, by omega, rfl, ?_, trivial⟩, by simp [intOf]⟩
        rw [w64 b0.1 (by have := b0.2; omega)]
        exact congrArg _ (by simpa using or_sum 8 256 x0 0 (by decide) rfl b0.1 b0.2 (by omega) (by have := b0.2; omega))
      · go_wp2_with fail
        refine ⟨⟨2, by omega, rfl, ?_, trivial⟩, by simp [intOf]⟩
        obtain ⟨_, _⟩ := b0; obtain ⟨_, _⟩ := b1
        rw [w64 (x := x1) (by omega) (by omega), w64 (by omega) (by omega)]
        exact congrArg _ (or_sum 8 256 x1 x0 (by decide) rfl (by omega) (by omega) (by omega) (by omega))
      · go_wp2_with fail
        refine ⟨⟨3, by omega, rfl, ?_, trivial⟩, by simp [intOf]⟩
        obtain ⟨_, _⟩ := b0; obtain ⟨_, _⟩ := b1; obtain ⟨_, _⟩ := b2
        rw [w64 (x := x2) (by omega) (by omega), w64 (by omega) (by omega)]
        exact congrArg _ (or_sum 8 256 x2 _ (by decide) rfl (by omega) (by omega) (by omega) (by omega))
      · go_wp2_with fail
        refine ⟨⟨4, by omega, rfl, ?_, trivial⟩, by simp [intOf]⟩
        obtain ⟨_, _⟩ := b0; obtain ⟨_, _⟩ := b1; obtain ⟨_, _⟩ := b2; obtain ⟨_, _⟩ := b3
        rw [w64 (x := x3) (by omega) (by omega), w64 (by omega) (by omega)]
        refine congrArg _ ((or_sum 8 256 x3 _ (by decide) rfl (by omega) (by omega) (by omega) (by omega)).trans ?_)
        simp only [rd4]; omega
    · obtain rfl : k = 4 := by omega
      go_wp2_with fail
      go_ret
      exact ⟨rfl, rfl⟩
set_option maxHeartbeats 800000 in
theorem number_p (b off cap : Nat) (x0 x1 x2 x3 : Int) (w : World) (c0 : w.cell? ⟨b, off, none⟩ = some (.int .u8 x0)) (c1 : w.cell? ⟨b, off + 1, none⟩ = some (.int .u8 x1)) (c2 : w.cell? ⟨b, off + 2, none⟩ = some (.int .u8 x2)) (c3 : w.cell? ⟨b, off + 3, none⟩ = some (.int .u8 x3))
    (b0 : IsB x0) (b1 : IsB x1) (b2 : IsB x2) (b3 : IsB x3) :
    Calls Try.prog 38 #[.slice (some ⟨b, off, none⟩) 4 cap] w fun e w' => e = .returned (.int .i64 (rd4 x0 x1 x2 x3)) ∧ Drawn w w' := by
  go_enter Try.func38, Try.ntmps38
  go_wp2_with fail
  go_quiet (fail)
  go_wp2_with fail
  go_ret
  refine ⟨rint ?_, nq, rfl⟩
  obtain ⟨_, _⟩ := b0; obtain ⟨_, _⟩ := b1; obtain ⟨_, _⟩ := b2; obtain ⟨_, _⟩ := b3
  rw [w64 (x := x0) (by omega) (by omega), w64 (x := x1) (by omega) (by omega), w64 (x := x2) (by omega) (by omega), w64 (x := x3) (by omega) (by omega), w64 (x := x0 * 16777216) (by omega) (by omega), w64 (x := x1 * 65536) (by omega) (by omega), w64 (x := x2 * 256) (by omega) (by omega)]
  rw [or_sum 24 16777216 (x1 * 65536) x0 (by decide) rfl (by omega) (by omega) (by omega) (by omega)]
  rw [show x0 * 16777216 + x1 * 65536 = (x0 * 256 + x1) * 65536 by omega, or_sum 16 65536 (x2 * 256) _ (by decide) rfl (by omega) (by omega) (by omega) (by omega)]
  rw [show (x0 * 256 + x1) * 65536 + x2 * 256 = ((x0 * 256 + x1) * 256 + x2) * 256 by omega, or_sum 8 256 x3 _ (by decide) rfl (by omega) (by omega) (by omega) (by omega)]
  unfold rd4; omega

/-- Which of two keys stands ahead. -/
def cmpL : List Int → List Int → Int
  | x :: a, y :: b => if x < y then -1 else if y < x then 1 else cmpL a b
  | _, _ => 0
def AllB (l : List Int) : Prop := ∀ x ∈ l, IsB x
theorem cmp_bytes : ∀ (a b : List Int), a.length = b.length → AllB a → AllB b → Lib.compareBytes (Lib.bytesOf a) (Lib.bytesOf b) = cmpL a b
  | [], [], _, _, _ => rfl
  | x :: a, y :: b, h, ha, hb => by
    have ih := cmp_bytes a b (by simpa using h) (fun z hz => ha z (by simp [hz])) (fun z hz => hb z (by simp [hz]))
    obtain ⟨h1, h2⟩ := ha x (by simp)
    obtain ⟨h3, h4⟩ := hb y (by simp)
    have e : ∀ u v : Int, 0 ≤ u → u < 256 → 0 ≤ v → v < 256 → (u.toNat.toUInt8 < v.toNat.toUInt8 ↔ u < v) := fun u v _ _ _ _ => by
      rw [UInt8.lt_iff_toNat_lt]
      simp
      omega
    simp only [Lib.bytesOf, List.map_cons, Lib.compareBytes, cmpL] at ih ⊢
    rw [ih]
    simp only [e x y h1 h2 h3 h4, e y x h3 h4 h1 h2]
theorem run_compareSlices {P : Program} (w : World) (a b : Addr) (xs ys : List Int) (c c' : Nat) (hx : ∀ j x, xs[j]? = some x → w.cell? (a.add j) = some (.int .u8 x)) (hy : ∀ j x, ys[j]? = some x → w.cell? (b.add j) = some (.int .u8 x)) :
    (Extern.BytealgCompare.compare #[.slice (some a) xs.length c, .slice (some b) ys.length c']).run P w = .ok (.int .i64 (Lib.compareBytes (Lib.bytesOf xs) (Lib.bytesOf ys))) w := by
  have h1 := Lib.run_loadBytesX (P := P) w xs a .empty hx
  have h2 := Lib.run_loadBytesX (P := P) w ys b .empty hy
  change Sem.run P (do pure (goInt (Extern.BytealgCompare.cmp (← Extern.Bytes.bytesOf (.slice (some a) xs.length c)) (← Extern.Bytes.bytesOf (.slice (some b) ys.length c'))))) w = _
  simp only [Extern.Bytes.bytesOf, Sem.run_bind, Sem.run_pure, h1, h2, Result.andThen]
  rw [Lib.cmp_eq]
  simp [goInt]
theorem bcompare_q (a b : Nat) (T T' : TypeId) (xs ys : List Int) (w : World) (ha : Blk w a T (U xs)) (hb : Blk w b T' (U ys)) (n : Nat) (hl : xs.length = n) (hl' : ys.length = n) (bx : AllB xs) (bY : AllB ys) :
    Calls Try.prog 39 #[.slice (some ⟨a, 0, none⟩) n n, .slice (some ⟨b, 0, none⟩) n n] w fun e w' => e = .returned (.int .i64 (cmpL xs ys)) ∧ w' = w := by
  have hr := run_compareSlices (P := Try.prog) w ⟨a, 0, none⟩ ⟨b, 0, none⟩ xs ys n n
    (fun j x hj => by rw [Addr.add_mid, ha.cell, Nat.zero_add, U_at, hj]; rfl) (fun j x hj => by rw [Addr.add_mid, hb.cell, Nat.zero_add, U_at, hj]; rfl)
  rw [cmp_bytes xs ys (hl.trans hl'.symm) bx bY, hl, hl'] at hr
  go_enter Try.func39, Try.ntmps39
  go_wp2_with fail
  rw [run_callFunc_extern Try.func44 (by kernel_rfl) (by kernel_rfl) (by kernel_rfl) (e := Extern.BytealgCompare.compare) (by kernel_rfl), hr]
  simp only [Result.andThen]
  rw [Oper.upon_value]
  go_wp2
  go_ret
  exact ⟨rfl, rfl⟩
end Go.Proofs.Ytcpkbhoocblpjaa.E
