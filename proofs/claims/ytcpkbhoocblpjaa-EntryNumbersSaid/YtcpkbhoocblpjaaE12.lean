/- The plain laws: an item's entry is read as it; keys stand in one order. -/
import Derived.Test.YtcpkbhoocblpjaaE11
namespace Go.Proofs.Ytcpkbhoocblpjaa.E
set_option linter.all false
open Go Go.RowKit

/-! ### An item's entry is read as it -/
theorem sub_mid {l pre mid post : List Int} {off n : Nat} (h : l = pre ++ (mid ++ post)) (ho : pre.length = off) (hm : mid.length = n) : sub l off n = mid := It.part_at h ho hm
theorem at0_mid {l pre post : List Int} {x : Int} {off : Nat} (h : l = pre ++ x :: post) (ho : pre.length = off) : at0 l off = x := by rw [at0, It.elem_at h ho]; rfl
theorem rd4_be4 {n : Int} (h0 : 0 ≤ n) (h1 : n < 4294967296) : rd4 (n / 16777216 % 256) (n / 65536 % 256) (n / 256 % 256) (n % 256) = n := by unfold rd4; omega
theorem rdAt_mid {l pre post : List Int} {x : Int} {off : Nat} (h : l = pre ++ (be4 x ++ post)) (ho : pre.length = off) (h0 : 0 ≤ x) (h1 : x < 4294967296) : rdAt l off = x := by
  unfold rdAt
  rw [at0_mid (pre := pre) (post := [x / 65536 % 256, x / 256 % 256, x % 256] ++ post) h ho,
    at0_mid (pre := pre ++ [x / 16777216 % 256]) (x := x / 65536 % 256) (post := [x / 256 % 256, x % 256] ++ post) (by rw [h]; simp [be4]) (by simp [ho]),
    at0_mid (pre := pre ++ [x / 16777216 % 256, x / 65536 % 256]) (x := x / 256 % 256) (post := [x % 256] ++ post) (by rw [h]; simp [be4]) (by simp [ho]),
    at0_mid (pre := pre ++ [x / 16777216 % 256, x / 65536 % 256, x / 256 % 256]) (x := x % 256) (post := post) (by rw [h]; simp [be4]) (by simp [ho])]
  exact rd4_be4 h0 h1
theorem inB_iff {n a b : Int} : inB n a b = true ↔ a ≤ n ∧ n ≤ b := by simp [inB]
theorem right_split {i : It} (h : i.right = true) : i.fine = true ∧ i.bare = i := by
  rw [It.right, Bool.and_eq_true] at h
  exact ⟨h.1, of_decide_eq_true h.2⟩
theorem right_kind {i : It} (h : i.right = true) : i.kind = 1 ∨ i.kind = 2 ∨ i.kind = 3 := by
  by_cases k1 : i.kind = 1
  · exact .inl k1
  by_cases k2 : i.kind = 2
  · exact .inr (.inl k2)
  by_cases k3 : i.kind = 3
  · exact .inr (.inr k3)
  · rw [It.right0 k1 k2 k3] at h; cases h
theorem enc1_eq {i : It} (k : i.kind = 1) : i.enc = 1 :: (i.key ++ (Z 7 ++ (be4 i.at_ ++ (be4 i.sec ++ (be4 i.un ++ (be4 i.refs ++ Z 24)))))) := by rw [It.enc, if_pos k]; simp [Z]
theorem enc2_eq {i : It} (k : i.kind = 2) : i.enc = 2 :: (be4 i.snap ++ (be4 i.unit ++ (Z 31 ++ (i.sk ++ (b8 i.off :: b8 i.mask :: Z 6))))) := by rw [It.enc, if_neg (by omega), if_pos k]; simp [Z]
theorem enc3_eq {i : It} (k : i.kind = 3) : i.enc = 3 :: (be4 i.snap ++ (Z 35 ++ Z 40)) := by rw [It.enc, if_neg (by omega), if_neg (by omega), if_pos k]; simp [Z]
theorem rd_back {i : It} (h : i.right = true) : rdIt i.enc i.enc_length = i := by
  obtain ⟨hf, hb⟩ := right_split h
  rcases right_kind h with k | k | k
  · have e := enc1_eq k
    rw [fine1 k] at hf
    simp only [Bool.and_eq_true, inB_iff] at hf
    obtain ⟨⟨_, _⟩, ⟨_, _⟩, ⟨_, _⟩, _, _⟩ := hf
    have h0 : at0 i.enc 0 = 1 := at0_mid (pre := []) e rfl
    rw [rdIt, if_pos h0, rd1]
    conv => rhs; rw [← hb, bare1' k]
    apply It.ext
    · exact h0.trans k.symm
    · exact sub_mid (mid := i.key) (pre := [1]) e rfl i.hk
    · exact rdAt_mid (x := i.at_) (pre := 1 :: (i.key ++ Z 7)) (post := be4 i.sec ++ (be4 i.un ++ (be4 i.refs ++ Z 24))) (by rw [e]; simp) (by simp [i.hk]) (by omega) (by omega)
    · exact rdAt_mid (x := i.sec) (pre := 1 :: (i.key ++ Z 7 ++ be4 i.at_)) (post := be4 i.un ++ (be4 i.refs ++ Z 24)) (by rw [e]; simp) (by simp [i.hk, be4]) (by omega) (by omega)
    · exact rdAt_mid (x := i.un) (pre := 1 :: (i.key ++ Z 7 ++ be4 i.at_ ++ be4 i.sec)) (post := be4 i.refs ++ Z 24) (by rw [e]; simp) (by simp [i.hk, be4]) (by omega) (by omega)
    · exact rdAt_mid (x := i.refs) (pre := 1 :: (i.key ++ Z 7 ++ be4 i.at_ ++ be4 i.sec ++ be4 i.un)) (post := Z 24) (by rw [e]; simp) (by simp [i.hk, be4]) (by omega) (by omega)
    all_goals rfl
  · have e := enc2_eq k
    rw [fine2 k] at hf
    simp only [Bool.and_eq_true, inB_iff] at hf
    obtain ⟨⟨_, _⟩, ⟨_, _⟩, ⟨_, _⟩, _, _⟩ := hf
    have h0 : at0 i.enc 0 = 2 := at0_mid (pre := []) e rfl
    rw [rdIt, if_neg (by omega), if_pos h0, rd2]
    conv => rhs; rw [← hb, bare2' k]
    apply It.ext
    · exact h0.trans k.symm
    · rfl
    · rfl
    · rfl
    · rfl
    · rfl
    · exact rdAt_mid (x := i.snap) (pre := [2]) (post := be4 i.unit ++ (Z 31 ++ (i.sk ++ (b8 i.off :: b8 i.mask :: Z 6)))) (by rw [e]; simp) rfl (by omega) (by omega)
    · exact rdAt_mid (x := i.unit) (pre := 2 :: be4 i.snap) (post := Z 31 ++ (i.sk ++ (b8 i.off :: b8 i.mask :: Z 6))) (by rw [e]; simp) rfl (by omega) (by omega)
    · exact sub_mid (mid := i.sk) (pre := 2 :: (be4 i.snap ++ be4 i.unit ++ Z 31)) (post := b8 i.off :: b8 i.mask :: Z 6) (by rw [e]; simp) (by simp [be4]) i.hs
    · refine (at0_mid (pre := 2 :: (be4 i.snap ++ be4 i.unit ++ Z 31 ++ i.sk)) (x := b8 i.off) (post := b8 i.mask :: Z 6) (by rw [e]; simp) (by simp [be4, i.hs])).trans ?_
      show i.off % 256 = i.off; omega
    · refine (at0_mid (pre := 2 :: (be4 i.snap ++ be4 i.unit ++ Z 31 ++ i.sk ++ [b8 i.off])) (x := b8 i.mask) (post := Z 6) (by rw [e]; simp) (by simp [be4, i.hs])).trans ?_
      show i.mask % 256 = i.mask; omega
  · have e := enc3_eq k
    rw [fine3 k, inB_iff] at hf
    have h0 : at0 i.enc 0 = 3 := at0_mid (pre := []) e rfl
    rw [rdIt, if_neg (by omega), if_neg (by omega), rd3]
    conv => rhs; rw [← hb, bare3' k]
    apply It.ext
    · exact h0.trans k.symm
    · rfl
    · rfl
    · rfl
    · rfl
    · rfl
    · exact rdAt_mid (x := i.snap) (pre := [3]) (post := Z 35 ++ Z 40) (by rw [e]; simp) rfl (by omega) (by omega)
    all_goals rfl
theorem good_back {i : It} (h : i.right = true) : itGood i.enc i.enc_length = true := by rw [itGood, rd_back h, h]; simp
theorem enc_inj {i k : It} (h1 : i.right = true) (h2 : k.right = true) (h : i.enc = k.enc) : i = k := by
  have e : ∀ (a b : List Int) (ha : a.length = 80) (hb : b.length = 80), a = b → rdIt a ha = rdIt b hb := fun a b ha hb hab => by subst hab; rfl
  have := e i.enc k.enc i.enc_length k.enc_length h
  rwa [rd_back h1, rd_back h2] at this
theorem isB_mod (n : Int) : IsB (n % 256) := ⟨by omega, by omega⟩
theorem allB_be4 (n : Int) : AllB (be4 n) := fun x hx => by
  simp only [be4, List.mem_cons, List.not_mem_nil, or_false] at hx
  rcases hx with rfl | rfl | rfl | rfl <;> exact isB_mod _
theorem allB_Z (n : Nat) : AllB (Z n) := fun x hx => by rw [List.eq_of_mem_replicate hx]; exact ⟨by omega, by omega⟩
theorem allB_app {a b : List Int} (h1 : AllB a) (h2 : AllB b) : AllB (a ++ b) := fun x hx => (List.mem_append.1 hx).elim (h1 x) (h2 x)
theorem allB_cons {a : Int} {b : List Int} (h1 : IsB a) (h2 : AllB b) : AllB (a :: b) := fun x hx => by
  rcases List.mem_cons.1 hx with rfl | hx
  · exact h1
  · exact h2 x hx
theorem enc_b {i : It} (h : i.ok) (hr : i.right = true) : AllB i.enc := by
  obtain ⟨hk, hkey, hsk, _⟩ := h
  rcases right_kind hr with k | k | k
  · rw [enc1_eq k]
    exact allB_cons ⟨by omega, by omega⟩ (allB_app hkey (allB_app (allB_Z _) (allB_app (allB_be4 _) (allB_app (allB_be4 _) (allB_app (allB_be4 _) (allB_app (allB_be4 _) (allB_Z _)))))))
  · rw [enc2_eq k]
    exact allB_cons ⟨by omega, by omega⟩ (allB_app (allB_be4 _) (allB_app (allB_be4 _) (allB_app (allB_Z _) (allB_app hsk (allB_cons (isB_mod _) (allB_cons (isB_mod _) (allB_Z _)))))))
  · rw [enc3_eq k]
    exact allB_cons ⟨by omega, by omega⟩ (allB_app (allB_be4 _) (allB_app (allB_Z _) (allB_Z _)))

/-! ### Keys stand in one order -/
theorem cmpL_range : ∀ (a b : List Int), cmpL a b = -1 ∨ cmpL a b = 0 ∨ cmpL a b = 1
  | [], _ => .inr (.inl rfl)
  | _ :: _, [] => .inr (.inl rfl)
  | x :: a, y :: b => by
    rw [cmpL]
    split
    · exact .inl rfl
    split
    · exact .inr (.inr rfl)
    · exact cmpL_range a b
theorem cmpL_anti : ∀ (a b : List Int), cmpL b a = -cmpL a b
  | [], [] => rfl
  | [], _ :: _ => rfl
  | _ :: _, [] => rfl
  | x :: a, y :: b => by
    rw [cmpL, cmpL]
    have := cmpL_anti a b
    by_cases h1 : x < y
    · rw [if_neg (by omega), if_pos h1, if_pos h1]; rfl
    by_cases h2 : y < x
    · rw [if_pos h2, if_neg h1, if_pos h2]
    · rw [if_neg h2, if_neg h1, if_neg h1, if_neg h2, this]
theorem cmpL_zero : ∀ (a b : List Int), a.length = b.length → (cmpL a b = 0 ↔ a = b)
  | [], [], _ => by simp [cmpL]
  | x :: a, y :: b, h => by
    have ih := cmpL_zero a b (by simpa using h)
    rw [cmpL]
    by_cases h1 : x < y
    · rw [if_pos h1]; simp; omega
    by_cases h2 : y < x
    · rw [if_neg h1, if_pos h2]; simp; omega
    · rw [if_neg h1, if_neg h2, ih]
      have : x = y := by omega
      simp [this]
theorem cmpL_trans : ∀ (a b c : List Int), a.length = b.length → b.length = c.length → cmpL a b ≤ 0 → cmpL b c ≤ 0 → cmpL a c ≤ 0 ∧ (cmpL a c = 0 → cmpL a b = 0 ∧ cmpL b c = 0)
  | [], [], [], _, _, _, _ => by simp [cmpL]
  | x :: a, y :: b, z :: c, h1, h2, h3, h4 => by
    have ih := cmpL_trans a b c (by simpa using h1) (by simpa using h2)
    rw [cmpL] at h3 h4 ⊢
    rw [cmpL, cmpL]
    by_cases e1 : x < y
    · by_cases e2 : z < y
      · rw [if_neg (by omega), if_pos e2] at h4; omega
      · rw [if_pos (by omega : x < z)]; simp
    by_cases e3 : y < x
    · rw [if_neg e1, if_pos e3] at h3; omega
    rw [if_neg e1, if_neg e3] at h3 ⊢
    obtain rfl : x = y := by omega
    by_cases e4 : x < z
    · rw [if_pos e4]; simp
    by_cases e5 : z < x
    · rw [if_neg e4, if_pos e5] at h4; omega
    simp only [if_neg e4, if_neg e5] at h4 ⊢
    exact ih h3 h4
def sgn (a b : Int) : Int := if a < b then -1 else if b < a then 1 else 0
theorem sgn_zero {a b : Int} (h : sgn a b = 0) : a = b := by
  unfold sgn at h
  by_cases h1 : a < b
  · rw [if_pos h1] at h; omega
  by_cases h2 : b < a
  · rw [if_neg h1, if_pos h2] at h; omega
  · omega
theorem cmpL_cons (x y : Int) (a b : List Int) : cmpL (x :: a) (y :: b) = if sgn x y = 0 then cmpL a b else sgn x y := by
  rw [cmpL, sgn]
  by_cases h1 : x < y
  · simp [h1]
  by_cases h2 : y < x
  · simp [h1, h2]
  · simp [h1, h2]
theorem cmpL_be4 {m n : Int} (hm0 : 0 ≤ m) (hm : m < 4294967296) (hn0 : 0 ≤ n) (hn : n < 4294967296) (a b : List Int) : cmpL (be4 m ++ a) (be4 n ++ b) = if sgn m n = 0 then cmpL a b else sgn m n := by
  simp only [be4, List.cons_append, List.nil_append, cmpL]
  simp only [sgn]
  repeat' split
  all_goals first | rfl | omega
/-- How two right items stand. -/
def want (i k : It) : Int := if sgn i.kind k.kind = 0 then (if sgn i.snap k.snap = 0 then sgn i.unit k.unit else sgn i.snap k.snap) else sgn i.kind k.kind
theorem enc_head (i : It) (h : i.right = true) : ∃ t, sub i.enc 0 40 = i.kind :: t := by
  rcases right_kind h with k | k | k
  · rw [enc1_eq k, k]; exact ⟨_, rfl⟩
  · rw [enc2_eq k, k]; exact ⟨_, rfl⟩
  · rw [enc3_eq k, k]; exact ⟨_, rfl⟩
theorem key2 {i : It} (k : i.kind = 2) : sub i.enc 0 40 = 2 :: (be4 i.snap ++ (be4 i.unit ++ Z 31)) := sub_mid (pre := []) (post := i.sk ++ (b8 i.off :: b8 i.mask :: Z 6)) (by rw [enc2_eq k]; simp) rfl (by simp [be4])
theorem key3 {i : It} (k : i.kind = 3) : sub i.enc 0 40 = 3 :: (be4 i.snap ++ Z 35) := sub_mid (pre := []) (post := Z 40) (by rw [enc3_eq k]; simp) rfl (by simp [be4])
theorem order_want {i k : It} (h1 : i.right = true) (h2 : k.right = true) (hn : ¬ (i.kind = 1 ∧ k.kind = 1)) : cmpL (sub i.enc 0 40) (sub k.enc 0 40) = want i k := by
  by_cases hs : sgn i.kind k.kind = 0
  · have hkk : i.kind = k.kind := sgn_zero hs
    obtain ⟨f1, b1⟩ := right_split h1
    obtain ⟨f2, b2⟩ := right_split h2
    rw [want, if_pos hs]
    rcases right_kind h1 with k1 | k1 | k1
    · exact absurd ⟨k1, hkk ▸ k1⟩ hn
    · have k2 : k.kind = 2 := hkk ▸ k1
      rw [fine2 k1] at f1
      rw [fine2 k2] at f2
      simp only [Bool.and_eq_true, inB_iff] at f1 f2
      rw [key2 k1, key2 k2, cmpL_cons, show sgn 2 2 = 0 from rfl, if_pos rfl, cmpL_be4 (by omega) (by omega) (by omega) (by omega), cmpL_be4 (by omega) (by omega) (by omega) (by omega), cmp_self]
      split
      · split
        · rename_i h; rw [h]
        · rfl
      · rfl
    · have k2 : k.kind = 3 := hkk ▸ k1
      rw [fine3 k1, inB_iff] at f1
      rw [fine3 k2, inB_iff] at f2
      have u1 : i.unit = 0 := by rw [← b1, bare3' k1]; rfl
      have u2 : k.unit = 0 := by rw [← b2, bare3' k2]; rfl
      rw [key3 k1, key3 k2, cmpL_cons, show sgn 3 3 = 0 from rfl, if_pos rfl, cmpL_be4 (by omega) (by omega) (by omega) (by omega), cmp_self, u1, u2]
      rfl
  · obtain ⟨t, ht⟩ := enc_head i h1
    obtain ⟨u, hu⟩ := enc_head k h2
    rw [ht, hu, cmpL_cons, if_neg hs, want, if_neg hs]
end Go.Proofs.Ytcpkbhoocblpjaa.E
