/- EntryNumbers walked. -/
import Derived.Test.YtcpkbhoocblpjaaE12
import Derived.Test.YtcpkbhoocblpjaaE15
namespace Go.Proofs.Ytcpkbhoocblpjaa.E
set_option linter.all false
open Go Go.RowKit

section
variable {P : Program} {ops : Array Oper} {rest : List Oper} {o : Oper} {a : Act} {w : World} {Q : Exit → Act → World → Prop} {K : Act → World → Prop} {F : Nat → Prop} {w0 : World} {L M : Mem}
theorem KL_bsv (hK : Kn F w0 w L) (hgd : Region.wanted o (yielded ops a.tmps) = true) (T : TypeId) (len : Nat) (parts : Array (Nat × Operand)) (ho : o.op = .buildSlice T len parts) (vs : List (Nat × Value)) (hv : parts.toList.map (fun p => (p.1, a.eval p.2)) = vs) {e : TypeId} {l : List Value} [hb : BSl P T len vs e l]
    (h : ∀ b w', Kn F w0 w' ((b, e, l) :: L) → wpList P ops Q rest (a.put o.dst (.slice (some ⟨b, 0, none⟩) len len)) w') : wpList P ops Q (o :: rest) a w :=
  wpList_want hgd fun _ hk => KO_buildSlice hK T len parts ho vs hv fun b w' h' => hk _ _ (h b w' h')
end
def I0 : It := { It.zero 1 with key := 1 :: 2 :: 3 :: Z 29, at_ := 258, sec := 1, un := 1, refs := 1, hk := rfl }
def I2 : It := { It.zero 3 with snap := 1073741824 }
def nums : List Int := [-9223372036854775808, -1, 0, 1, 2, 3, 4, 15, 16, 17, 255, 256, 511, 512, 1024, 1025, 262144, 262145, 1073741824, 1073741825, 2147483647, 2147483648, 4294967297, 9223372036854775807]
def rows3 : List Value := I0.row ++ (S.row ++ I2.row)
def itN (k : Nat) : It := match k with | 0 => I0 | 1 => S | _ => I2
theorem itN_right (k : Nat) : (itN k).right = true := by
  unfold itN; split <;> decide +kernel
theorem itN_b (k : Nat) : AllB (itN k).enc := by
  unfold itN; split <;> exact allB_of (by decide +kernel)
theorem rows3_part {k : Nat} (h : k < 3) : Part rows3 (k * 73) 73 (itN k).row := by
  have : k = 0 ∨ k = 1 ∨ k = 2 := by omega
  rcases this with rfl | rfl | rfl
  · exact ⟨It.part_at (pre := []) rfl rfl (by simp [itN]), by simp [rows3]⟩
  · exact ⟨It.part_at (pre := I0.row) rfl (by simp) (by simp [itN]), by simp [rows3]⟩
  · exact ⟨It.part_at (pre := I0.row ++ S.row) (post := []) (by simp [rows3, itN]) (by simp) (by simp [itN]), by simp [rows3]⟩
instance : TyEl Try.prog 39 73 136 := ⟨by kernel_rfl, by decide⟩
instance : TyEl Try.prog 3 1 8 := ⟨by kernel_rfl, by decide⟩
instance : TySl Try.prog 55 39 := ⟨by kernel_rfl⟩
instance : TySl Try.prog 22 3 := ⟨by kernel_rfl⟩
def numsV : List Value := nums.map (Value.int .i64)
instance : BSl Try.prog 55 3 [(0, .agg I0.row.toArray), (1, .agg S.row.toArray), (2, .agg I2.row.toArray)] 39 rows3 :=
  ⟨fun w => by
    have := bsl_dense (P := Try.prog) (T := 55) (e := 39) (size := 73) (bytes := 136) [.agg I0.row.toArray, .agg S.row.toArray, .agg I2.row.toArray] (by intro v hv; simp only [List.mem_cons, List.not_mem_nil, or_false] at hv; rcases hv with rfl | rfl | rfl <;> simp [Value.cells]) (by simp) (by simp) w
    simpa [rows3, Value.cells] using this⟩
instance bnums : BSl Try.prog 22 24 ((numsV.zipIdx 0).map fun x => (x.2, x.1)) 3 numsV :=
  ⟨fun w => by
    have := bsl_dense (P := Try.prog) (T := 22) (e := 3) (size := 1) (bytes := 8) numsV (by intro v hv; obtain ⟨x, _, rfl⟩ := List.mem_map.1 hv; rfl) (by decide) (by decide) w
    have h : (numsV.flatMap fun v => v.cells.toList) = numsV := by kernel_rfl
    rw [h] at this
    exact this⟩
instance : Bld Try.prog 33 [(0, .int .u8 1), (1, .int .u8 2), (2, .int .u8 3)] (U (1 :: 2 :: 3 :: Z 29)) := ⟨fun w => run_build w 33 _ _ (by kernel_rfl)⟩
theorem nums_at {k : Nat} (h : k < 24) : ∃ v, At numsV k (.int .i64 v) :=
  ⟨(nums[k]'h), ⟨by rw [numsV, List.getElem?_map, List.getElem?_eq_getElem (l := nums) h]; rfl⟩⟩
theorem isB_bits (op : BinOp) (a b : Int) : IsB (bits op .u8 a b) := by
  have h : ∀ x, IsB (IntKind.u8.wrap x) := fun x => by
    rw [IntKind.wrap_u8]; exact isB_mod x
  unfold bits; split <;> exact h _
theorem set_b {l : List Int} (h : AllB l) {k : Nat} {z : Int} (hz : IsB z) : AllB (l.set k z) := fun x hx => by
  rcases List.mem_or_eq_of_mem_set hx with hx | rfl
  · exact h x hx
  · exact hz
def pl0 : List Value := [.int .i64 258, .int .i64 1, .int .i64 1, .int .i64 1]
instance : Bld Try.prog 35 [(0, .int .i64 258), (1, .int .i64 1), (2, .int .i64 1), (3, .int .i64 1)] pl0 := ⟨fun w => run_build w 35 _ _ (by kernel_rfl)⟩
instance : Bld Try.prog 39 [(0, .int .u8 1), (1, .agg (U (1 :: 2 :: 3 :: Z 29)).toArray), (2, .agg pl0.toArray)] I0.row := ⟨fun w => run_build w 39 _ _ (by kernel_rfl)⟩
instance : Bld Try.prog 39 [(0, .int .u8 3), (3, .int .i64 1073741824)] I2.row := ⟨fun w => run_build w 39 _ _ (by kernel_rfl)⟩
set_option maxRecDepth 20000 in
set_option maxHeartbeats 3200000 in
theorem entryNumbers_w (w : World) : Calls Try.prog 10 #[] w fun e w' => e = .returned (.bool true) ∧ Below w.heap.size w w' := by
  refine Kn.begin (fun w0 hK => ?_)
  go_enter Try.func10, Try.ntmps10
  go_wp2_with (first | ((with_reducible change wpList _ _ _ (_ :: _) _ _); first | ((with_reducible change wpList _ _ _ (Oper.mk _ (Op.load _ _) _ _ _ _ :: _) _ _); first | (refine KL_load1 hK (by rfl) _ _ rfl _ _ rfl ?_) | (refine KL_load hK (by rfl) _ _ rfl _ _ rfl ?_)) | ((with_reducible change wpList _ _ _ (Oper.mk _ (Op.store _ _ _) _ _ _ _ :: _) _ _); first | (refine KL_store1 hK (by rfl) _ _ _ rfl _ _ rfl _ (by conv => lhs; whnf) (by rfl) ?_; clear hK; intro w hK) | (refine KL_store hK (by rfl) _ _ _ rfl _ _ rfl _ rfl ?_; clear hK; intro w hK)) | ((with_reducible change wpList _ _ _ (Oper.mk _ (Op.alloc _) _ _ _ _ :: _) _ _); refine KL_alloc hK (by rfl) _ rfl ?_; clear hK; intro b w hK) | ((with_reducible change wpList _ _ _ (Oper.mk _ (Op.box _ _) _ _ _ _ :: _) _ _); refine KL_box hK (by rfl) _ _ rfl _ (by conv => lhs; whnf) ?_; clear hK; intro b w hK) | ((with_reducible change wpList _ _ _ (Oper.mk _ (Op.build _ _) _ _ _ _ :: _) _ _); first | (refine KL_build0 (by rfl) _ rfl ?_) | (refine KL_build1 (by rfl) _ _ _ rfl _ (by conv => lhs; whnf) ?_) | (refine KL_build2 (by rfl) _ _ _ _ _ rfl _ (by conv => lhs; whnf) _ (by conv => lhs; whnf) ?_) | (refine KL_build3 (by rfl) _ _ _ _ _ _ _ rfl _ (by conv => lhs; whnf) _ (by conv => lhs; whnf) _ (by conv => lhs; whnf) ?_) | (refine KL_build4 (by rfl) _ _ _ _ _ _ _ _ _ rfl _ (by conv => lhs; whnf) _ (by conv => lhs; whnf) _ (by conv => lhs; whnf) _ (by conv => lhs; whnf) ?_) | (refine KL_build5 (by rfl) _ _ _ _ _ _ _ _ _ _ _ rfl _ (by conv => lhs; whnf) _ (by conv => lhs; whnf) _ (by conv => lhs; whnf) _ (by conv => lhs; whnf) _ (by conv => lhs; whnf) ?_)) | ((with_reducible change wpList _ _ _ (Oper.mk _ (Op.binOp _ _ _ _ _) _ _ _ _ :: _) _ _); refine KL_cmp (by rfl) _ _ _ _ _ rfl _ _ rfl rfl ?_) | ((with_reducible change wpList _ _ _ (Oper.mk _ (Op.call _) _ _ _ _ :: _) _ _); refine KL_copy hK (by rfl) _ _ _ _ rfl _ _ _ _ _ _ _ _ rfl rfl _ _ (by first | exact Nat.min_eq_left (by first | decide | omega) | exact Nat.min_eq_right (by first | decide | omega)) (by first | exact Nat.mul_one _ | (conv => lhs; simp only [Nat.reduceMul])) ?_; clear hK; intro w hK) | ((with_reducible change wpList _ _ _ (Oper.mk _ (Op.index _ _ _) _ _ _ _ :: _) _ _); refine KL_index (by rfl) _ _ _ rfl _ rfl _ rfl _ (by conv => lhs; simp only [Int.reduceToNat, Int.toNat_natCast]) (by first | decide | omega) (by first | decide | omega) ?_) | ((with_reducible change wpList _ _ _ (Oper.mk _ (Op.sliceToArrayPointer _ _) _ _ _ _ :: _) _ _); refine KL_arr (by rfl) _ _ rfl _ _ _ rfl (by first | decide | omega) ?_)) | (go_at_call 28; (with_reducible refine (slice_c _).mono ?_); rintro e w1 ⟨rfl, hb⟩; replace hK := hK.call hb; clear hb) | ((with_reducible change wpList _ _ _ (Oper.mk _ (Op.buildSlice _ _ _) _ _ _ _ :: _) _ _); first | (refine KL_bsv hK (by rfl) 55 3 _ rfl [(0, .agg I0.row.toArray), (1, .agg S.row.toArray), (2, .agg I2.row.toArray)] (by rfl) ?_; clear hK; intro b w hK) | (refine KL_bsv hK (by rfl) 22 24 _ rfl ((numsV.zipIdx 0).map fun x => (x.2, x.1)) (by rfl) ?_; clear hK; intro b w hK)))
  obtain ⟨b2, rfl⟩ := hK.n0
  obtain ⟨b1, rfl⟩ := hK.n1
  go_loopw [3] (fun i wr => ∃ k : Nat, k ≤ 3 ∧ i = .int .i64 k ∧ Kn Nil w0 wr [(b2, 3, numsV), (b1, 39, rows3)]) (fun i _ => 3 - (intOf i).toNat)
  case atStart => exact ⟨0, by omega, rfl, hK⟩
  case round =>
    clear hK
    obtain ⟨i, hi, rfl, hK⟩ := hrel
    by_cases hlt : i < 3
    · have di : decide ((i : Int) < 3) = true := by rw [decide_eq_true_eq]; omega
      go_wp2_with fail
      clear di
      go_loopw [4] (fun n wr => ∃ k : Nat, k ≤ 11 ∧ n = .int .i64 k ∧ Kn Nil w0 wr [(b2, 3, numsV), (b1, 39, rows3)]) (fun n _ => 11 - (intOf n).toNat)
      case atStart => exact ⟨0, by omega, rfl, hK⟩
      case round =>
        clear hK
        obtain ⟨n, hn, rfl, hK⟩ := hrel
        by_cases hnt : n < 11
        · have dn : decide ((n : Int) < 11) = true := by rw [decide_eq_true_eq]; omega
          go_wp2_with fail
          clear dn
          go_loopw [5] (fun k wr => ∃ j : Nat, j ≤ 24 ∧ k = .int .i64 j ∧ Kn Nil w0 wr [(b2, 3, numsV), (b1, 39, rows3)]) (fun k _ => 24 - (intOf k).toNat)
          case atStart => exact ⟨0, by omega, rfl, hK⟩
          case round =>
            clear hK
            obtain ⟨k, hk, rfl, hK⟩ := hrel
            by_cases hkt : k < 24
            · haveI hp := rows3_part hlt
              obtain ⟨v, hv⟩ := nums_at hkt
              go_wp2_with fail
              (refine wp_region_kn hK [] (by kernel_rfl) ?_; (try clear hK); intro w hK hS)
              have hix : (i : Int) < 3 := by omega
              have hkx : (k : Int) < 24 := by omega
              (refine KS_take 0 (by kernel_rfl) (by decide +kernel) (by decide +kernel) (by exact fun _ _ _ h => h) (by rfl) (by intro w hSw; go_simp; with_reducible rfl) hS ?_; (try simp only [Act.put, List.setIfInBounds_toArray, List.set_cons_zero, List.set_cons_succ])); (refine KS_take 1 (by kernel_rfl) (by decide +kernel) (by decide +kernel) (by exact fun _ _ _ h => h) (by rfl) (by intro w hSw; go_simp; with_reducible rfl) hS ?_; (try simp only [Act.put, List.setIfInBounds_toArray, List.set_cons_zero, List.set_cons_succ])); (refine KS_take 2 (by kernel_rfl) (by decide +kernel) (by decide +kernel) (by exact fun _ _ _ h => h) (by rfl) (by intro w hSw; go_simp; with_reducible rfl) hS ?_; (try simp only [Act.put, List.setIfInBounds_toArray, List.set_cons_zero, List.set_cons_succ]))
              (refine KS_take 3 (by kernel_rfl) (by decide +kernel) (by decide +kernel) (by exact fun _ _ _ h => h) (by rfl) (by first | exact KS_load1 _ _ rfl _ _ rfl | exact KS_load _ _ rfl _ _ rfl) hS ?_; (try simp only [Act.put, List.setIfInBounds_toArray, List.set_cons_zero, List.set_cons_succ]))
              (refine KS_take 4 (by kernel_rfl) (by decide +kernel) (by decide +kernel) (by exact fun _ _ _ h => h) (by rfl) (by intro w hSw; go_simp; with_reducible rfl) hS ?_; (try simp only [Act.put, List.setIfInBounds_toArray, List.set_cons_zero, List.set_cons_succ])); (refine KS_take 5 (by kernel_rfl) (by decide +kernel) (by decide +kernel) (by exact fun _ _ _ h => h) (by rfl) (by intro w hSw; go_simp; with_reducible rfl) hS ?_; (try simp only [Act.put, List.setIfInBounds_toArray, List.set_cons_zero, List.set_cons_succ])); (refine KS_take 6 (by kernel_rfl) (by decide +kernel) (by decide +kernel) (by exact fun _ _ _ h => h) (by rfl) (by intro w hSw; go_simp; with_reducible rfl) hS ?_; (try simp only [Act.put, List.setIfInBounds_toArray, List.set_cons_zero, List.set_cons_succ])); (refine KS_take 7 (by kernel_rfl) (by decide +kernel) (by decide +kernel) (by exact fun _ _ _ h => h) (by rfl) (by intro w hSw; go_simp; with_reducible rfl) hS ?_; (try simp only [Act.put, List.setIfInBounds_toArray, List.set_cons_zero, List.set_cons_succ]))
              clear hix hkx
              (refine KS_take 8 (by kernel_rfl) (by decide +kernel) (by decide +kernel) (by exact fun _ _ _ h => h) (by rfl) (by first | exact KS_load1 _ _ rfl _ _ rfl | exact KS_load _ _ rfl _ _ rfl) hS ?_; (try simp only [Act.put, List.setIfInBounds_toArray, List.set_cons_zero, List.set_cons_succ]))
              (refine KS_one 9 (by decide +kernel) (by rfl) (fun K hk => ?_); (go_simp; (go_at_call 29; (with_reducible refine (bent_c (itN i) n hnt v _).mono ?_); rintro e w1 ⟨⟨j, rfl⟩, hb⟩; have hK := hK.call hb; clear hb; dsimp only)); (refine hk.out _ _ hK.subs (fun hS => ?_); clear hk K; (try simp only [Act.put, List.setIfInBounds_toArray, List.set_cons_zero, List.set_cons_succ])))
              (refine KS_one 10 (by decide +kernel) (by rfl) (fun K hk => ?_); (go_simp; (go_at_call 7; (with_reducible refine (entryOf_w j _).mono ?_); rintro e w1 ⟨rfl, hb⟩; have hK := hK.call hb; clear hb; dsimp only)); (refine hk.out _ _ hK.subs (fun hS => ?_); clear hk K; (try simp only [Act.put, List.setIfInBounds_toArray, List.set_cons_zero, List.set_cons_succ])))
              (refine KS_take 11 (by kernel_rfl) (by decide +kernel) (by decide +kernel) (by exact fun _ _ _ h => h) (by rfl) (by intro w hSw; go_simp; with_reducible rfl) hS ?_; (try simp only [Act.put, List.setIfInBounds_toArray, List.set_cons_zero, List.set_cons_succ]))
              (refine wpAnyH_done (by kernel_rfl) ?_ _)
              go_wp2_with fail
              exact ⟨⟨k + 1, by omega, rfl, hK⟩, by simp [intOf]; omega⟩
            · obtain rfl : k = 24 := by omega
              go_wp2_with fail
              exact ⟨⟨n + 1, by omega, rfl, hK⟩, by simp [intOf]; omega⟩
        · obtain rfl : n = 11 := by omega
          haveI hp := rows3_part hlt
          have di : decide ((i : Int) < 3) = true := by rw [decide_eq_true_eq]; omega
          go_wp2_with (first | ((with_reducible change wpList _ _ _ (_ :: _) _ _); first | ((with_reducible change wpList _ _ _ (Oper.mk _ (Op.load _ _) _ _ _ _ :: _) _ _); first | (refine KL_load1 hK (by rfl) _ _ rfl _ _ rfl ?_) | (refine KL_load hK (by rfl) _ _ rfl _ _ rfl ?_)) | ((with_reducible change wpList _ _ _ (Oper.mk _ (Op.store _ _ _) _ _ _ _ :: _) _ _); first | (refine KL_store1 hK (by rfl) _ _ _ rfl _ _ rfl _ (by conv => lhs; whnf) (by rfl) ?_; clear hK; intro w hK) | (refine KL_store hK (by rfl) _ _ _ rfl _ _ rfl _ rfl ?_; clear hK; intro w hK)) | ((with_reducible change wpList _ _ _ (Oper.mk _ (Op.alloc _) _ _ _ _ :: _) _ _); refine KL_alloc hK (by rfl) _ rfl ?_; clear hK; intro b w hK) | ((with_reducible change wpList _ _ _ (Oper.mk _ (Op.box _ _) _ _ _ _ :: _) _ _); refine KL_box hK (by rfl) _ _ rfl _ (by conv => lhs; whnf) ?_; clear hK; intro b w hK) | ((with_reducible change wpList _ _ _ (Oper.mk _ (Op.build _ _) _ _ _ _ :: _) _ _); first | (refine KL_build0 (by rfl) _ rfl ?_) | (refine KL_build1 (by rfl) _ _ _ rfl _ (by conv => lhs; whnf) ?_) | (refine KL_build2 (by rfl) _ _ _ _ _ rfl _ (by conv => lhs; whnf) _ (by conv => lhs; whnf) ?_) | (refine KL_build3 (by rfl) _ _ _ _ _ _ _ rfl _ (by conv => lhs; whnf) _ (by conv => lhs; whnf) _ (by conv => lhs; whnf) ?_) | (refine KL_build4 (by rfl) _ _ _ _ _ _ _ _ _ rfl _ (by conv => lhs; whnf) _ (by conv => lhs; whnf) _ (by conv => lhs; whnf) _ (by conv => lhs; whnf) ?_) | (refine KL_build5 (by rfl) _ _ _ _ _ _ _ _ _ _ _ rfl _ (by conv => lhs; whnf) _ (by conv => lhs; whnf) _ (by conv => lhs; whnf) _ (by conv => lhs; whnf) _ (by conv => lhs; whnf) ?_)) | ((with_reducible change wpList _ _ _ (Oper.mk _ (Op.binOp _ _ _ _ _) _ _ _ _ :: _) _ _); refine KL_cmp (by rfl) _ _ _ _ _ rfl _ _ rfl rfl ?_) | ((with_reducible change wpList _ _ _ (Oper.mk _ (Op.call _) _ _ _ _ :: _) _ _); refine KL_copy hK (by rfl) _ _ _ _ rfl _ _ _ _ _ _ _ _ rfl rfl _ _ (by first | exact Nat.min_eq_left (by first | decide | omega) | exact Nat.min_eq_right (by first | decide | omega)) (by first | exact Nat.mul_one _ | (conv => lhs; simp only [Nat.reduceMul])) ?_; clear hK; intro w hK) | ((with_reducible change wpList _ _ _ (Oper.mk _ (Op.index _ _ _) _ _ _ _ :: _) _ _); refine KL_index (by rfl) _ _ _ rfl _ rfl _ rfl _ (by conv => lhs; simp only [Int.reduceToNat, Int.toNat_natCast]) (by first | decide | omega) (by first | decide | omega) ?_) | ((with_reducible change wpList _ _ _ (Oper.mk _ (Op.sliceToArrayPointer _ _) _ _ _ _ :: _) _ _); refine KL_arr (by rfl) _ _ rfl _ _ _ rfl (by first | decide | omega) ?_)) | (go_at_call 21; (with_reducible refine (of_ok (itN i) (itN_right i) _).mono ?_); rintro e w1 ⟨rfl, hb⟩; replace hK := hK.call hb; clear hb))
          clear di hp
          have BE := itN_b i
          have LE := (itN i).enc_length
          generalize (itN i).enc = l at BE LE hK ⊢
          haveI ll : Ln l 80 := ⟨LE⟩
          obtain ⟨b, rfl⟩ := hK.n0
          go_loopw [8] (fun k wr => ∃ j : Nat, j ≤ 40 ∧ k = .int .i64 j ∧ ∃ M, Kn Nil w0 wr (M ++ [(b, 44, U l), (b2, 3, numsV), (b1, 39, rows3)])) (fun k _ => 40 - (intOf k).toNat)
          case atStart => exact ⟨0, by omega, rfl, [], hK⟩
          case round =>
            clear hK
            obtain ⟨k, hk, rfl, M, hK⟩ := hrel
            replace hK := hK.tail
            by_cases hkt : k < 40
            · have dk : decide ((k : Int) < 40) = true := by rw [decide_eq_true_eq]; omega
              go_wp2_with fail
              clear dk
              go_loopw [9] (fun n wr => ∃ j : Nat, j ≤ 8 ∧ n = .int .i64 j ∧ ∃ M, Kn Nil w0 wr (M ++ [(b, 44, U l), (b2, 3, numsV), (b1, 39, rows3)])) (fun n _ => 8 - (intOf n).toNat)
              case atStart => exact ⟨0, by omega, rfl, [], hK⟩
              case round =>
                clear hK
                obtain ⟨q, hq, rfl, M, hK⟩ := hrel
                replace hK := hK.tail
                by_cases hqt : q < 8
                · go_wp2_with fail
                  apply wp_meet2 hK
                  case h =>
                    (refine wp_region_kn hK [] (by kernel_rfl) ?_; (try clear hK); intro w hK hS)
                    (refine KS_take 0 (by kernel_rfl) (by decide +kernel) (by decide +kernel) (by exact fun _ _ _ h => h) (by rfl) (by first | exact KS_load1 _ _ rfl _ _ rfl | exact KS_load _ _ rfl _ _ rfl | exact KS_arr _ _ rfl _ _ _ rfl (by first | decide | omega) | (intro w hSw; go_simp; with_reducible rfl)) hS ?_; (try simp only [Act.put, List.setIfInBounds_toArray, List.set_cons_zero, List.set_cons_succ])); (refine KS_take 1 (by kernel_rfl) (by decide +kernel) (by decide +kernel) (by exact fun _ _ _ h => h) (by rfl) (by first | exact KS_load1 _ _ rfl _ _ rfl | exact KS_load _ _ rfl _ _ rfl | exact KS_arr _ _ rfl _ _ _ rfl (by first | decide | omega) | (intro w hSw; go_simp; with_reducible rfl)) hS ?_; (try simp only [Act.put, List.setIfInBounds_toArray, List.set_cons_zero, List.set_cons_succ]))
                    refine KS_two 2 3 (by decide +kernel) (by rfl) (by rfl) (fun K hk => ?_) (fun K hk => ?_)
                    · (with_reducible change Oper.wp _ _ _ _ _ _); first | ((with_reducible change Oper.wp _ (Oper.mk _ (Op.store _ _ _) _ _ _ _) _ _ _ _); first | (refine KO_store1 hK _ _ _ rfl _ _ rfl _ (by conv => lhs; whnf) (by rfl) ?_; (try clear hK); intro w hK) | (refine KO_store hK _ _ _ rfl _ _ rfl _ rfl ?_; (try clear hK); intro w hK)) | ((with_reducible change Oper.wp _ (Oper.mk _ (Op.alloc _) _ _ _ _) _ _ _ _); refine KO_alloc hK _ rfl ?_; (try clear hK); intro b w hK) | ((with_reducible change Oper.wp _ (Oper.mk _ (Op.box _ _) _ _ _ _) _ _ _ _); refine KO_box hK _ _ rfl _ (by conv => lhs; whnf) ?_; (try clear hK); intro b w hK)
                      (refine hk.out _ _ hK.subs (fun hS => ?_); clear hk K; (try simp only [Act.put, List.setIfInBounds_toArray, List.set_cons_zero, List.set_cons_succ]))
                      (refine KS_one 3 (by decide +kernel) (by rfl) (fun K hk => ?_); ((with_reducible change Oper.wp _ _ _ _ _ _); first | ((with_reducible change Oper.wp _ (Oper.mk _ (Op.store _ _ _) _ _ _ _) _ _ _ _); first | (refine KO_store1 hK _ _ _ rfl _ _ rfl _ (by conv => lhs; whnf) (by rfl) ?_; (try clear hK); intro w hK) | (refine KO_store hK _ _ _ rfl _ _ rfl _ rfl ?_; (try clear hK); intro w hK)) | ((with_reducible change Oper.wp _ (Oper.mk _ (Op.alloc _) _ _ _ _) _ _ _ _); refine KO_alloc hK _ rfl ?_; (try clear hK); intro b w hK) | ((with_reducible change Oper.wp _ (Oper.mk _ (Op.box _ _) _ _ _ _) _ _ _ _); refine KO_box hK _ _ rfl _ (by conv => lhs; whnf) ?_; (try clear hK); intro b w hK)); (refine hk.out _ _ hK.subs (fun hS => ?_); clear hk K; (try simp only [Act.put, List.setIfInBounds_toArray, List.set_cons_zero, List.set_cons_succ])))
                      (refine KS_one 4 (by decide +kernel) (by rfl) (fun K hk => ?_); ((with_reducible change Oper.wp _ _ _ _ _ _); first | ((with_reducible change Oper.wp _ (Oper.mk _ (Op.store _ _ _) _ _ _ _) _ _ _ _); first | (refine KO_store1 hK _ _ _ rfl _ _ rfl _ (by conv => lhs; whnf) (by rfl) ?_; (try clear hK); intro w hK) | (refine KO_store hK _ _ _ rfl _ _ rfl _ rfl ?_; (try clear hK); intro w hK)) | ((with_reducible change Oper.wp _ (Oper.mk _ (Op.alloc _) _ _ _ _) _ _ _ _); refine KO_alloc hK _ rfl ?_; (try clear hK); intro b w hK) | ((with_reducible change Oper.wp _ (Oper.mk _ (Op.box _ _) _ _ _ _) _ _ _ _); refine KO_box hK _ _ rfl _ (by conv => lhs; whnf) ?_; (try clear hK); intro b w hK)); (refine hk.out _ _ hK.subs (fun hS => ?_); clear hk K; (try simp only [Act.put, List.setIfInBounds_toArray, List.set_cons_zero, List.set_cons_succ])))
                      (refine KS_one 5 (by decide +kernel) (by rfl) (fun K hk => ?_); ((with_reducible change Oper.wp _ _ _ _ _ _); first | ((with_reducible change Oper.wp _ (Oper.mk _ (Op.store _ _ _) _ _ _ _) _ _ _ _); first | (refine KO_store1 hK _ _ _ rfl _ _ rfl _ (by conv => lhs; whnf) (by rfl) ?_; (try clear hK); intro w hK) | (refine KO_store hK _ _ _ rfl _ _ rfl _ rfl ?_; (try clear hK); intro w hK)) | ((with_reducible change Oper.wp _ (Oper.mk _ (Op.alloc _) _ _ _ _) _ _ _ _); refine KO_alloc hK _ rfl ?_; (try clear hK); intro b w hK) | ((with_reducible change Oper.wp _ (Oper.mk _ (Op.box _ _) _ _ _ _) _ _ _ _); refine KO_box hK _ _ rfl _ (by conv => lhs; whnf) ?_; (try clear hK); intro b w hK)); (refine hk.out _ _ hK.subs (fun hS => ?_); clear hk K; (try simp only [Act.put, List.setIfInBounds_toArray, List.set_cons_zero, List.set_cons_succ])))
                      (refine wpAnyH_done (by kernel_rfl) ?_ _)
                      obtain ⟨y, rfl⟩ := hK.n0
                      obtain ⟨x, rfl⟩ := hK.n1
                      exact ⟨x, y, rfl, hK⟩
                    · (with_reducible change Oper.wp _ _ _ _ _ _); first | ((with_reducible change Oper.wp _ (Oper.mk _ (Op.store _ _ _) _ _ _ _) _ _ _ _); first | (refine KO_store1 hK _ _ _ rfl _ _ rfl _ (by conv => lhs; whnf) (by rfl) ?_; (try clear hK); intro w hK) | (refine KO_store hK _ _ _ rfl _ _ rfl _ rfl ?_; (try clear hK); intro w hK)) | ((with_reducible change Oper.wp _ (Oper.mk _ (Op.alloc _) _ _ _ _) _ _ _ _); refine KO_alloc hK _ rfl ?_; (try clear hK); intro b w hK) | ((with_reducible change Oper.wp _ (Oper.mk _ (Op.box _ _) _ _ _ _) _ _ _ _); refine KO_box hK _ _ rfl _ (by conv => lhs; whnf) ?_; (try clear hK); intro b w hK)
                      (refine hk.out _ _ hK.subs (fun hS => ?_); clear hk K; (try simp only [Act.put, List.setIfInBounds_toArray, List.set_cons_zero, List.set_cons_succ]))
                      (refine KS_one 2 (by decide +kernel) (by rfl) (fun K hk => ?_); ((with_reducible change Oper.wp _ _ _ _ _ _); first | ((with_reducible change Oper.wp _ (Oper.mk _ (Op.store _ _ _) _ _ _ _) _ _ _ _); first | (refine KO_store1 hK _ _ _ rfl _ _ rfl _ (by conv => lhs; whnf) (by rfl) ?_; (try clear hK); intro w hK) | (refine KO_store hK _ _ _ rfl _ _ rfl _ rfl ?_; (try clear hK); intro w hK)) | ((with_reducible change Oper.wp _ (Oper.mk _ (Op.alloc _) _ _ _ _) _ _ _ _); refine KO_alloc hK _ rfl ?_; (try clear hK); intro b w hK) | ((with_reducible change Oper.wp _ (Oper.mk _ (Op.box _ _) _ _ _ _) _ _ _ _); refine KO_box hK _ _ rfl _ (by conv => lhs; whnf) ?_; (try clear hK); intro b w hK)); (refine hk.out _ _ hK.subs (fun hS => ?_); clear hk K; (try simp only [Act.put, List.setIfInBounds_toArray, List.set_cons_zero, List.set_cons_succ])))
                      (refine KS_one 4 (by decide +kernel) (by rfl) (fun K hk => ?_); ((with_reducible change Oper.wp _ _ _ _ _ _); first | ((with_reducible change Oper.wp _ (Oper.mk _ (Op.store _ _ _) _ _ _ _) _ _ _ _); first | (refine KO_store1 hK _ _ _ rfl _ _ rfl _ (by conv => lhs; whnf) (by rfl) ?_; (try clear hK); intro w hK) | (refine KO_store hK _ _ _ rfl _ _ rfl _ rfl ?_; (try clear hK); intro w hK)) | ((with_reducible change Oper.wp _ (Oper.mk _ (Op.alloc _) _ _ _ _) _ _ _ _); refine KO_alloc hK _ rfl ?_; (try clear hK); intro b w hK) | ((with_reducible change Oper.wp _ (Oper.mk _ (Op.box _ _) _ _ _ _) _ _ _ _); refine KO_box hK _ _ rfl _ (by conv => lhs; whnf) ?_; (try clear hK); intro b w hK)); (refine hk.out _ _ hK.subs (fun hS => ?_); clear hk K; (try simp only [Act.put, List.setIfInBounds_toArray, List.set_cons_zero, List.set_cons_succ])))
                      (refine KS_one 5 (by decide +kernel) (by rfl) (fun K hk => ?_); ((with_reducible change Oper.wp _ _ _ _ _ _); first | ((with_reducible change Oper.wp _ (Oper.mk _ (Op.store _ _ _) _ _ _ _) _ _ _ _); first | (refine KO_store1 hK _ _ _ rfl _ _ rfl _ (by conv => lhs; whnf) (by rfl) ?_; (try clear hK); intro w hK) | (refine KO_store hK _ _ _ rfl _ _ rfl _ rfl ?_; (try clear hK); intro w hK)) | ((with_reducible change Oper.wp _ (Oper.mk _ (Op.alloc _) _ _ _ _) _ _ _ _); refine KO_alloc hK _ rfl ?_; (try clear hK); intro b w hK) | ((with_reducible change Oper.wp _ (Oper.mk _ (Op.box _ _) _ _ _ _) _ _ _ _); refine KO_box hK _ _ rfl _ (by conv => lhs; whnf) ?_; (try clear hK); intro b w hK)); (refine hk.out _ _ hK.subs (fun hS => ?_); clear hk K; (try simp only [Act.put, List.setIfInBounds_toArray, List.set_cons_zero, List.set_cons_succ])))
                      (refine wpAnyH_done (by kernel_rfl) ?_ _)
                      obtain ⟨x, rfl⟩ := hK.n0
                      obtain ⟨y, rfl⟩ := hK.n1
                      exact ⟨x, y, rfl, hK.perm (List.Perm.swap _ _ _)⟩
                  case k =>
                  clear hK
                  intro x y w hK
                  haveI g1 : At (U l) k (.int .u8 (l[k]'(by omega))) := ⟨by rw [U_at, List.getElem?_eq_getElem (by omega)]; rfl⟩
                  haveI g2 : At (U l) (40 + k) (.int .u8 (l[40 + k]'(by omega))) := ⟨by rw [U_at, List.getElem?_eq_getElem (by omega)]; rfl⟩
                  haveI s1 : ∀ z, Put (U l) k (.int .u8 z) (U (l.set k z)) := fun z => ⟨by rw [U_set], by simp [LE]; omega⟩
                  haveI s2 : ∀ z, Put (U l) (40 + k) (.int .u8 z) (U (l.set (40 + k) z)) := fun z => ⟨by rw [U_set], by simp [LE]; omega⟩
                  haveI n1 : ∀ z, Ln (l.set k z) 80 := fun z => ⟨by simp [LE]⟩
                  haveI n2 : ∀ z, Ln (l.set (40 + k) z) 80 := fun z => ⟨by simp [LE]⟩
                  haveI t0 : Part (U l) 0 40 (U (sub l 0 40)) := U_sub (by omega)
                  haveI t1 : ∀ z, Part (U (l.set k z)) 0 40 (U (sub (l.set k z) 0 40)) := fun z => U_sub (by simp [LE])
                  have C8 : ∀ j z, IsB z → ∀ w, Calls Try.prog 8 #[.agg (U (l.set j z)).toArray] w fun e w' => e = .returned (.bool true) ∧ Below w.heap.size w w' :=
                    fun j z hz w => entryItem_w _ (by simp [LE]) (set_b BE hz) w
                  have C9 : ∀ z, IsB z → ∀ w, Calls Try.prog 9 #[.agg (U (sub (l.set k z) 0 40)).toArray, .agg (U (sub l 0 40)).toArray] w fun e w' => e = .returned (.bool true) ∧ Below w.heap.size w w' :=
                    fun z hz w => entryCompare_w _ _ (sub_length (N := 80) (by simp [LE]) (by decide)) (sub_length LE (by decide)) (sub_b (set_b BE hz) 0 40) (sub_b BE 0 40) w
                  have C9' : ∀ z, IsB z → ∀ w, Calls Try.prog 9 #[.agg (U (sub l 0 40)).toArray, .agg (U (sub (l.set k z) 0 40)).toArray] w fun e w' => e = .returned (.bool true) ∧ Below w.heap.size w w' :=
                    fun z hz w => entryCompare_w _ _ (sub_length LE (by decide)) (sub_length (N := 80) (by simp [LE]) (by decide)) (sub_b BE 0 40) (sub_b (set_b BE hz) 0 40) w
                  have D8 := Lib.hid C8
                  have D9 := Lib.hid C9
                  have D9' := Lib.hid C9'
                  clear C8 C9 C9'
                  go_wp2_with (first | ((with_reducible change wpList _ _ _ (_ :: _) _ _); first | ((with_reducible change wpList _ _ _ (Oper.mk _ (Op.load _ _) _ _ _ _ :: _) _ _); first | (refine KL_load1 hK (by rfl) _ _ rfl _ _ rfl ?_) | (refine KL_load hK (by rfl) _ _ rfl _ _ rfl ?_)) | ((with_reducible change wpList _ _ _ (Oper.mk _ (Op.store _ _ _) _ _ _ _ :: _) _ _); first | (refine KL_store1 hK (by rfl) _ _ _ rfl _ _ rfl _ (by conv => lhs; whnf) (by rfl) ?_; clear hK; intro w hK) | (refine KL_store hK (by rfl) _ _ _ rfl _ _ rfl _ rfl ?_; clear hK; intro w hK)) | ((with_reducible change wpList _ _ _ (Oper.mk _ (Op.alloc _) _ _ _ _ :: _) _ _); refine KL_alloc hK (by rfl) _ rfl ?_; clear hK; intro b w hK) | ((with_reducible change wpList _ _ _ (Oper.mk _ (Op.box _ _) _ _ _ _ :: _) _ _); refine KL_box hK (by rfl) _ _ rfl _ (by conv => lhs; whnf) ?_; clear hK; intro b w hK) | ((with_reducible change wpList _ _ _ (Oper.mk _ (Op.build _ _) _ _ _ _ :: _) _ _); first | (refine KL_build0 (by rfl) _ rfl ?_) | (refine KL_build1 (by rfl) _ _ _ rfl _ (by conv => lhs; whnf) ?_) | (refine KL_build2 (by rfl) _ _ _ _ _ rfl _ (by conv => lhs; whnf) _ (by conv => lhs; whnf) ?_) | (refine KL_build3 (by rfl) _ _ _ _ _ _ _ rfl _ (by conv => lhs; whnf) _ (by conv => lhs; whnf) _ (by conv => lhs; whnf) ?_) | (refine KL_build4 (by rfl) _ _ _ _ _ _ _ _ _ rfl _ (by conv => lhs; whnf) _ (by conv => lhs; whnf) _ (by conv => lhs; whnf) _ (by conv => lhs; whnf) ?_) | (refine KL_build5 (by rfl) _ _ _ _ _ _ _ _ _ _ _ rfl _ (by conv => lhs; whnf) _ (by conv => lhs; whnf) _ (by conv => lhs; whnf) _ (by conv => lhs; whnf) _ (by conv => lhs; whnf) ?_)) | ((with_reducible change wpList _ _ _ (Oper.mk _ (Op.binOp _ _ _ _ _) _ _ _ _ :: _) _ _); refine KL_cmp (by rfl) _ _ _ _ _ rfl _ _ rfl rfl ?_) | ((with_reducible change wpList _ _ _ (Oper.mk _ (Op.call _) _ _ _ _ :: _) _ _); refine KL_copy hK (by rfl) _ _ _ _ rfl _ _ _ _ _ _ _ _ rfl rfl _ _ (by first | exact Nat.min_eq_left (by first | decide | omega) | exact Nat.min_eq_right (by first | decide | omega)) (by first | exact Nat.mul_one _ | (conv => lhs; simp only [Nat.reduceMul])) ?_; clear hK; intro w hK) | ((with_reducible change wpList _ _ _ (Oper.mk _ (Op.index _ _ _) _ _ _ _ :: _) _ _); refine KL_index (by rfl) _ _ _ rfl _ rfl _ rfl _ (by conv => lhs; simp only [Int.reduceToNat, Int.toNat_natCast]) (by first | decide | omega) (by first | decide | omega) ?_) | ((with_reducible change wpList _ _ _ (Oper.mk _ (Op.sliceToArrayPointer _ _) _ _ _ _ :: _) _ _); refine KL_arr (by rfl) _ _ rfl _ _ _ rfl (by first | decide | omega) ?_)) | (go_at_call 8; (with_reducible refine (D8.out _ _ (isB_bits _ _ _) _).mono ?_); rintro e w1 ⟨rfl, hb⟩; replace hK := hK.call hb; clear hb) | (go_at_call 9; (with_reducible refine (D9.out _ (isB_bits _ _ _) _).mono ?_); rintro e w1 ⟨rfl, hb⟩; replace hK := hK.call hb; clear hb) | (go_at_call 9; (with_reducible refine (D9'.out _ (isB_bits _ _ _) _).mono ?_); rintro e w1 ⟨rfl, hb⟩; replace hK := hK.call hb; clear hb))
                  exact ⟨⟨q + 1, by omega, rfl, [_, _], hK⟩, by simp [intOf]; omega⟩
                · obtain rfl : q = 8 := by omega
                  go_wp2_with fail
                  exact ⟨⟨k + 1, by omega, rfl, [], hK⟩, by simp [intOf]; omega⟩
            · obtain rfl : k = 40 := by omega
              go_wp2_with fail
              exact ⟨⟨i + 1, by omega, rfl, hK.tail (M := [_])⟩, by simp [intOf]; omega⟩
    · obtain rfl : i = 3 := by omega
      go_wp2_with (first | ((with_reducible change wpList _ _ _ (_ :: _) _ _); first | ((with_reducible change wpList _ _ _ (Oper.mk _ (Op.load _ _) _ _ _ _ :: _) _ _); first | (refine KL_load1 hK (by rfl) _ _ rfl _ _ rfl ?_) | (refine KL_load hK (by rfl) _ _ rfl _ _ rfl ?_)) | ((with_reducible change wpList _ _ _ (Oper.mk _ (Op.store _ _ _) _ _ _ _ :: _) _ _); first | (refine KL_store1 hK (by rfl) _ _ _ rfl _ _ rfl _ (by conv => lhs; whnf) (by rfl) ?_; clear hK; intro w hK) | (refine KL_store hK (by rfl) _ _ _ rfl _ _ rfl _ rfl ?_; clear hK; intro w hK)) | ((with_reducible change wpList _ _ _ (Oper.mk _ (Op.alloc _) _ _ _ _ :: _) _ _); refine KL_alloc hK (by rfl) _ rfl ?_; clear hK; intro b w hK) | ((with_reducible change wpList _ _ _ (Oper.mk _ (Op.box _ _) _ _ _ _ :: _) _ _); refine KL_box hK (by rfl) _ _ rfl _ (by conv => lhs; whnf) ?_; clear hK; intro b w hK) | ((with_reducible change wpList _ _ _ (Oper.mk _ (Op.build _ _) _ _ _ _ :: _) _ _); first | (refine KL_build0 (by rfl) _ rfl ?_) | (refine KL_build1 (by rfl) _ _ _ rfl _ (by conv => lhs; whnf) ?_) | (refine KL_build2 (by rfl) _ _ _ _ _ rfl _ (by conv => lhs; whnf) _ (by conv => lhs; whnf) ?_) | (refine KL_build3 (by rfl) _ _ _ _ _ _ _ rfl _ (by conv => lhs; whnf) _ (by conv => lhs; whnf) _ (by conv => lhs; whnf) ?_) | (refine KL_build4 (by rfl) _ _ _ _ _ _ _ _ _ rfl _ (by conv => lhs; whnf) _ (by conv => lhs; whnf) _ (by conv => lhs; whnf) _ (by conv => lhs; whnf) ?_) | (refine KL_build5 (by rfl) _ _ _ _ _ _ _ _ _ _ _ rfl _ (by conv => lhs; whnf) _ (by conv => lhs; whnf) _ (by conv => lhs; whnf) _ (by conv => lhs; whnf) _ (by conv => lhs; whnf) ?_)) | ((with_reducible change wpList _ _ _ (Oper.mk _ (Op.binOp _ _ _ _ _) _ _ _ _ :: _) _ _); refine KL_cmp (by rfl) _ _ _ _ _ rfl _ _ rfl rfl ?_) | ((with_reducible change wpList _ _ _ (Oper.mk _ (Op.call _) _ _ _ _ :: _) _ _); refine KL_copy hK (by rfl) _ _ _ _ rfl _ _ _ _ _ _ _ _ rfl rfl _ _ (by first | exact Nat.min_eq_left (by first | decide | omega) | exact Nat.min_eq_right (by first | decide | omega)) (by first | exact Nat.mul_one _ | (conv => lhs; simp only [Nat.reduceMul])) ?_; clear hK; intro w hK) | ((with_reducible change wpList _ _ _ (Oper.mk _ (Op.index _ _ _) _ _ _ _ :: _) _ _); refine KL_index (by rfl) _ _ _ rfl _ rfl _ rfl _ (by conv => lhs; simp only [Int.reduceToNat, Int.toNat_natCast]) (by first | decide | omega) (by first | decide | omega) ?_) | ((with_reducible change wpList _ _ _ (Oper.mk _ (Op.sliceToArrayPointer _ _) _ _ _ _ :: _) _ _); refine KL_arr (by rfl) _ _ rfl _ _ _ rfl (by first | decide | omega) ?_)) | (go_at_call 8; (with_reducible refine (entryItem_w (Z 80) (Z_length 80) (allB_Z 80) _).mono ?_); rintro e w1 ⟨rfl, hb⟩; replace hK := hK.call hb; clear hb) | (go_at_call 23; (with_reducible refine (awake_c _).mono ?_); rintro e w1 ⟨rfl, hb⟩; replace hK := hK.call hb; clear hb))
      go_ret
      exact ⟨rfl, hK.below⟩
end Go.Proofs.Ytcpkbhoocblpjaa.E
