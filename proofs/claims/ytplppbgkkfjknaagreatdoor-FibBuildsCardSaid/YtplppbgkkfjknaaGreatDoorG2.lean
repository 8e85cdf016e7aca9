/- The bits of an address, plain: the first k bits, as a list and as a number. bits and prefix: what the functions compute. The document's bits and prefixes; the comparisons. -/
import Derived.Test.YtplppbgkkfjknaaGreatDoorG1
import Derived.Laws.BitsLemmas
import Derived.Deep.DeepCutAuto
import Derived.Deep.CutBlock
namespace Go.Proofs.YtplppbgkkfjknaaGreatDoor
open Go.RowKit

/-- bit i of a word, bit 0 the most significant -/
def bitN (a i : Nat) : Bool := decide (a / 2 ^ (31 - i) % 2 = 1)
/-- the first k bits -/
def bitL (a : Nat) : Nat → List Bool
  | 0 => []
  | k + 1 => bitL a k ++ [bitN a k]
def preN (a k : Nat) : Nat := a / 2 ^ (32 - k)
/-- all bits behind the first k cleared -/
def keepN (a k : Nat) : Nat := preN a k * 2 ^ (32 - k)
theorem bitL_len (a : Nat) : ∀ k, (bitL a k).length = k
  | 0 => rfl
  | k + 1 => by rw [bitL, List.length_append, bitL_len a k]; rfl
theorem preN_succ (a : Nat) {k : Nat} (hk : k < 32) : preN a (k + 1) = 2 * preN a k + (if bitN a k = true then 1 else 0) := by
  unfold preN bitN
  have e1 : 32 - (k + 1) = 31 - k := by omega
  have e2 : (2 : Nat) ^ (32 - k) = 2 ^ (31 - k) * 2 := by rw [← Nat.pow_succ]; congr 1; omega
  rw [e1, e2, ← Nat.div_div_eq_div_mul]
  generalize a / 2 ^ (31 - k) = q
  by_cases h : q % 2 = 1
  · rw [if_pos (by simpa using h)]
    omega
  · rw [if_neg (by simpa using h)]
    omega
theorem bitL_pre {a b : Nat} (ha : a < 4294967296) (hb : b < 4294967296) : ∀ {k : Nat}, k ≤ 32 → (bitL a k = bitL b k ↔ preN a k = preN b k)
  | 0, _ => by
    have h1 : preN a 0 = 0 := by unfold preN; exact Nat.div_eq_of_lt (by simpa using ha)
    have h2 : preN b 0 = 0 := by unfold preN; exact Nat.div_eq_of_lt (by simpa using hb)
    rw [h1, h2]
    exact ⟨fun _ => rfl, fun _ => rfl⟩
  | k + 1, hk => by
    have ih := bitL_pre ha hb (k := k) (by omega)
    rw [preN_succ a (by omega), preN_succ b (by omega), bitL, bitL]
    constructor
    · intro h
      have h1 := List.append_inj' h rfl
      have h2 : bitN a k = bitN b k := by simpa using h1.2
      rw [ih.1 h1.1, h2]
    · intro h
      have h1 : bitN a k = bitN b k := by
        cases h3 : bitN a k <;> cases h4 : bitN b k <;> simp [h3, h4] at h <;> first | rfl | omega
      have h2 : preN a k = preN b k := by rw [h1] at h; omega
      rw [ih.2 h2, h1]
theorem bitL_keep {a b : Nat} (ha : a < 4294967296) (hb : b < 4294967296) {k : Nat} (hk : k ≤ 32) : bitL a k = bitL b k ↔ keepN a k = keepN b k := by
  rw [bitL_pre ha hb hk]
  unfold keepN
  exact ⟨fun h => by rw [h], fun h => Nat.eq_of_mul_eq_mul_right (Nat.pow_pos (by omega)) h⟩
theorem keepN_le (a k : Nat) : keepN a k ≤ a := by unfold keepN preN; exact Nat.div_mul_le_self _ _
theorem keepN_keep (a k : Nat) : keepN (keepN a k) k = keepN a k := by
  unfold keepN preN
  rw [Nat.mul_div_cancel _ (Nat.pow_pos (by omega))]
end Go.Proofs.YtplppbgkkfjknaaGreatDoor
namespace Go.Proofs.YtplppbgkkfjknaaGreatDoor
open Go.RowKit

set_option linter.unusedVariables false
set_option linter.unusedSimpArgs false
theorem wraps_u32_32 (n : Int) (h₀ : 0 ≤ n) (h₁ : n < 2 ^ 32) : IntKind.u32.wrap n = n := by
  have e : (2 : Int) ^ 32 = 4294967296 := by decide
  rw [e] at h₁
  have : IntKind.u32.wrap n = n % 4294967296 := by simp [IntKind.wrap, IntKind.bits, IntKind.signed]
  rw [this]
  omega
theorem mask_fin : ∀ k : Fin 33, (4294967295 * 2 ^ (32 - k.val) % 4294967296 : Int) = (((2 ^ k.val - 1) * 2 ^ (32 - k.val) : Nat) : Int) := by decide +kernel
theorem mask_num {k : Nat} (h : k ≤ 32) : (4294967295 * 2 ^ (32 - k) % 4294967296 : Int) = (((2 ^ k - 1) * 2 ^ (32 - k) : Nat) : Int) := mask_fin ⟨k, by omega⟩
theorem mask_lt {k : Nat} (h : k ≤ 32) : (2 ^ k - 1) * 2 ^ (32 - k) < 4294967296 := by
  have h1 : (2 : Nat) ^ k * 2 ^ (32 - k) = 4294967296 := by
    rw [← Nat.pow_add]
    have : k + (32 - k) = 32 := by omega
    rw [this]
  have h2 : (0 : Nat) < 2 ^ (32 - k) := Nat.pow_pos (by omega)
  have h3 : (0 : Nat) < 2 ^ k := Nat.pow_pos (by omega)
  have h4 : (2 ^ k - 1) * 2 ^ (32 - k) < 2 ^ k * 2 ^ (32 - k) := Nat.mul_lt_mul_of_pos_right (by omega) h2
  omega
theorem and_mask (x k j : Nat) : x &&& ((2 ^ k - 1) * 2 ^ j) = x / 2 ^ j % 2 ^ k * 2 ^ j := by
  rw [← Nat.shiftLeft_eq, ← Nat.and_two_pow_sub_one_eq_mod, ← Nat.shiftRight_eq_div_pow, ← Nat.shiftLeft_eq]
  apply Nat.eq_of_testBit_eq
  intro i
  simp only [Nat.testBit_and, Nat.testBit_shiftLeft, Nat.testBit_shiftRight]
  by_cases h : j ≤ i
  · have : j + (i - j) = i := by omega
    simp [h, this]
  · simp [h]
theorem keep_num {a k : Nat} (ha : a < 4294967296) (h : k ≤ 32) : bits BinOp.and IntKind.u32 (a : Int) (((2 ^ k - 1) * 2 ^ (32 - k) : Nat) : Int) = (keepN a k : Int) := by
  have h1 := (bits_nat .u32 32 (by decide) wraps_u32_32 a ((2 ^ k - 1) * 2 ^ (32 - k)) (by simpa using ha) (by have := mask_lt h; simpa using this)).1
  rw [h1, and_mask]
  unfold keepN preN
  rw [Nat.mod_eq_of_lt]
  have h2 : (2 : Nat) ^ (32 - k) * 2 ^ k = 4294967296 := by
    rw [← Nat.pow_add]
    have : 32 - k + k = 32 := by omega
    rw [this]
  exact Nat.div_lt_of_lt_mul (by omega)
theorem bit_num {a i : Nat} (ha : a < 4294967296) (hi : i < 32) : bits BinOp.and IntKind.u32 ((a : Int) / 2 ^ (31 - i)) 1 = (if bitN a i = true then 1 else 0) := by
  have e : ((a : Int) / 2 ^ (31 - i)) = ((a / 2 ^ (31 - i) : Nat) : Int) := by simp
  have hq : a / 2 ^ (31 - i) < 2 ^ 32 := Nat.lt_of_le_of_lt (Nat.div_le_self _ _) (by simpa using ha)
  have h1 := (bits_nat .u32 32 (by decide) wraps_u32_32 (a / 2 ^ (31 - i)) 1 (by simpa using hq) (by decide)).1
  rw [e]
  have h2 : bits BinOp.and IntKind.u32 ((a / 2 ^ (31 - i) : Nat) : Int) 1 = ((a / 2 ^ (31 - i) &&& 1 : Nat) : Int) := h1
  rw [h2, Nat.and_one_is_mod]
  unfold bitN
  have h3 : a / 2 ^ (31 - i) % 2 = 0 ∨ a / 2 ^ (31 - i) % 2 = 1 := by omega
  rcases h3 with h3 | h3 <;> simp [h3]
theorem clamp_any (n : Int) (w : World) (h0 : 0 ≤ n) (h1 : n ≤ 32) : Calls Tryz.prog 131 #[.int .i64 n, .int .i64 32] w fun e w' => e = .returned (.int .i64 n) ∧ w = w' := by
  go_enter Tryz.func131, Tryz.ntmps131
  go_wp2
  go_ret
  exact ⟨rfl, rfl⟩
theorem mask_any (k : Nat) (w : World) (h1 : k ≤ 32) : Calls Tryz.prog 126 #[.int .i64 k] w fun e w' => e = .returned (.int .u32 ((2 ^ k - 1) * 2 ^ (32 - k) : Nat)) ∧ w = w' := by
  have HC := Lib.hid (clamp_any k w (by omega) (by omega))
  have HM := Lib.hid (mask_num h1)
  go_enter Tryz.func126, Tryz.ntmps126
  go_wp2_with fail
  refine HC.out.mono ?_
  rintro e w1 ⟨rfl, rfl⟩
  go_wp2
  go_ret
  exact ⟨ret_int HM.out, rfl⟩
theorem keep_any (a k : Nat) (w : World) (ha : a < 4294967296) (h1 : k ≤ 32) : Calls Tryz.prog 112 #[.int .u32 a, .int .i64 k] w fun e w' => e = .returned (.int .u32 (keepN a k)) ∧ w = w' := by
  have HC := Lib.hid (mask_any k w h1)
  have HM := Lib.hid (keep_num ha h1)
  obtain ⟨mk, hmk⟩ : ∃ mk : Nat, (2 ^ k - 1) * 2 ^ (32 - k) = mk := ⟨_, rfl⟩
  rw [hmk] at HC HM
  clear hmk
  go_enter Tryz.func112, Tryz.ntmps112
  go_wp2_with fail
  refine HC.out.mono ?_
  rintro e w1 ⟨rfl, rfl⟩
  go_wp2
  go_ret
  exact ⟨ret_int HM.out, rfl⟩
theorem at_any (a i : Nat) (w : World) (ha : a < 4294967296) (hi : i < 32) : Calls Tryz.prog 120 #[.int .u32 a, .int .i64 i] w fun e w' => e = .returned (.int .i64 (if bitN a i = true then 1 else 0)) ∧ w = w' := by
  have d0 : decide ((i : Int) < 0) = false := by simp
  have d1 : decide ((i : Int) ≥ 32) = false := by simp; omega
  have HB := Lib.hid (bit_num ha hi)
  obtain ⟨bt, hbt⟩ : ∃ bt : Int, (if bitN a i = true then 1 else 0) = bt := ⟨_, rfl⟩
  have HBT := Lib.hid hbt
  rw [hbt] at HB ⊢
  have hw : wrap64 bt = bt := by
    have : bt = 1 ∨ bt = 0 := by rw [← hbt]; split <;> simp
    rcases this with rfl | rfl <;> simp [wrap64]
  clear hbt
  go_enter Tryz.func120, Tryz.ntmps120
  go_wp2
  go_ret
  exact ⟨ret_int (by rw [HB.out, hw]), rfl⟩
/-- a valid prefix -/
def validP (a : Nat) (l : Int) : Bool := decide (0 ≤ l) && (decide (l ≤ 32) && decide (keepN a l.toNat = a))
/-- the order of prefixes -/
def cmpP (a : Nat) (l : Int) (b : Nat) (m : Int) : Int := if a < b ∨ (a = b ∧ l < m) then -1 else if a = b ∧ l = m then 0 else 1
set_option maxRecDepth 100000 in
set_option maxHeartbeats 2000000 in
theorem valid_any (a : Nat) (l : Int) (w : World) (ha : a < 4294967296) : Calls Tryz.prog 84 #[.agg #[.int .u32 a, .int .i64 l]] w fun e w' => e = .returned (.bool (validP a l)) ∧ Below w.heap.size w w' := by
  obtain ⟨w1, hw1⟩ : ∃ w1, w.alloc (.cells #[.int .u32 a, .int .i64 l] 65) = w1 := ⟨_, rfl⟩
  have hbA : Blk w1 w.heap.size 65 [.int .u32 a, .int .i64 l] := by rw [← hw1]; exact Blk.new w _ _
  have hb1 : Below w.heap.size w w1 := by rw [← hw1]; exact belowA _ _
  have HB1 := Lib.hid hb1
  have a0 := hbA.cell 0
  have a1 := hbA.cell 1
  simp only [List.getElem?_cons_zero, List.getElem?_cons_succ] at a0 a1
  have hlt : w.heap.size < w1.heap.size := hbA.lt
  have HKA := Lib.hid hbA
  clear hbA hb1
  by_cases h0 : 0 ≤ l
  case neg =>
    have d0 : decide (l ≥ 0) = false := by simp; omega
    have HF : Hid (validP a l = false) := by show _ = _; unfold validP; rw [decide_eq_false h0]; rfl
    go_enter Tryz.func84, Tryz.ntmps84
    go_upto_region 1 with fail
    try rw [hw1]
    clear hw1 h0
    go_quiet (fail)
    go_wp2
    go_ret
    exact ⟨by rw [HF.out]; rfl, below_drewN HB1.out _⟩
  obtain ⟨k, rfl⟩ : ∃ k : Nat, l = (k : Int) := ⟨l.toNat, by omega⟩
  have d0 : decide ((k : Int) ≥ 0) = true := by simp
  by_cases h1 : k ≤ 32
  case neg =>
    have d1 : decide ((k : Int) ≤ 32) = false := by simp; omega
    have HF : Hid (validP a k = false) := by show _ = _; unfold validP; rw [decide_eq_true h0, decide_eq_false (show ¬ (k : Int) ≤ 32 by omega)]; rfl
    go_enter Tryz.func84, Tryz.ntmps84
    go_upto_region 1 with fail
    try rw [hw1]
    clear hw1 h0 h1
    go_quiet (fail)
    go_wp2
    go_ret
    exact ⟨by rw [HF.out]; rfl, below_drewN HB1.out _⟩
  have d1 : decide ((k : Int) ≤ 32) = true := by simp; omega
  have HF : Hid (validP a k = ((keepN a k : Int) == (a : Int))) := by
    show _ = _
    unfold validP
    rw [decide_eq_true h0, decide_eq_true (show (k : Int) ≤ 32 by omega), Int.toNat_natCast, Bool.true_and, Bool.true_and]
    by_cases h : keepN a k = a <;> simp [h] <;> omega
  have HK : Hid (∀ W, Calls Tryz.prog 112 #[.int .u32 a, .int .i64 k] W fun e w' => e = .returned (.int .u32 (keepN a k)) ∧ W = w') := fun W => keep_any a k W ha h1
  obtain ⟨kn, hkn⟩ : ∃ kn, keepN a k = kn := ⟨_, rfl⟩
  rw [hkn] at HF HK
  have HS : Hid (∀ V, Below w1.heap.size w1 V → V.cell? ⟨w.heap.size, 0, none⟩ = some (.int .u32 a) ∧ V.cell? ⟨w.heap.size, 1, none⟩ = some (.int .i64 k)) := fun V h => ⟨(HKA.out.keep h).cell 0, (HKA.out.keep h).cell 1⟩
  have HC0 : Hid (Below w1.heap.size w1 w1.drew) := (Below.refl _ _).drew
  go_enter Tryz.func84, Tryz.ntmps84
  go_upto_region 1 with fail
  try rw [hw1]
  clear hw1 h0 h1 hkn
  refine wp_region_noPanic ?_
  refine wp_region_held_drew (S := fun V => V.cell? ⟨w.heap.size, 0, none⟩ = some (.int .u32 a) ∧ V.cell? ⟨w.heap.size, 1, none⟩ = some (.int .i64 k)) (by kernel_rfl) (HS.out _ HC0.out) (fun hHeld => ?_)
  refine take_in (i := 0) _ (some 3) (by kernel_rfl) (by kernel_rfl) (by kernel_rfl) (by kernel_rfl) (fun _ _ _ h => h) (by rfl) (fun o ho w hSw => by cases ho; (try dsimp only at hSw); (try go_split_ands); go_simp; (try with_reducible rfl)) hHeld ?_
  try simp only [Act.put, List.setIfInBounds_toArray, List.set_cons_zero, List.set_cons_succ]
  refine take_in (i := 1) _ (some 4) (by kernel_rfl) (by kernel_rfl) (by kernel_rfl) (by kernel_rfl) (fun _ _ _ h => h) (by rfl) (fun o ho w hSw => by cases ho; (try dsimp only at hSw); (try go_split_ands); go_simp; (try with_reducible rfl)) hHeld ?_
  try simp only [Act.put, List.setIfInBounds_toArray, List.set_cons_zero, List.set_cons_succ]
  refine take_in (i := 2) _ (some 5) (by kernel_rfl) (by kernel_rfl) (by kernel_rfl) (by kernel_rfl) (fun _ _ _ h => h) (by rfl) (fun o ho w hSw => by cases ho; (try dsimp only at hSw); (try go_split_ands); go_simp; (try with_reducible rfl)) hHeld ?_
  try simp only [Act.put, List.setIfInBounds_toArray, List.set_cons_zero, List.set_cons_succ]
  refine take_in (i := 3) _ (some 6) (by kernel_rfl) (by kernel_rfl) (by kernel_rfl) (by kernel_rfl) (fun _ _ _ h => h) (by rfl) (fun o ho w hSw => by cases ho; (try dsimp only at hSw); (try go_split_ands); go_simp; (try with_reducible rfl)) hHeld ?_
  try simp only [Act.put, List.setIfInBounds_toArray, List.set_cons_zero, List.set_cons_succ]
  refine take_in (i := 4) _ (some 7) (by kernel_rfl) (by kernel_rfl) (by kernel_rfl) (by kernel_rfl) (fun _ _ _ h => h) (by rfl) (fun o ho w hSw => by cases ho; (try dsimp only at hSw); (try go_split_ands); go_simp; (try with_reducible rfl)) hHeld ?_
  try simp only [Act.put, List.setIfInBounds_toArray, List.set_cons_zero, List.set_cons_succ]
  refine take_in (i := 5) _ (some 8) (by kernel_rfl) (by kernel_rfl) (by kernel_rfl) (by kernel_rfl) (fun _ _ _ h => h) (by rfl) (fun o ho w hSw => by cases ho; (try dsimp only at hSw); (try go_split_ands); go_simp; (try with_reducible rfl)) hHeld ?_
  try simp only [Act.put, List.setIfInBounds_toArray, List.set_cons_zero, List.set_cons_succ]
  refine take_in (i := 6) _ (some 9) (by kernel_rfl) (by kernel_rfl) (by kernel_rfl) (by kernel_rfl) (fun _ _ _ h => h) (by rfl) (fun o ho w hSw => by cases ho; (try dsimp only at hSw); (try go_split_ands); go_simp; (try with_reducible rfl)) hHeld ?_
  try simp only [Act.put, List.setIfInBounds_toArray, List.set_cons_zero, List.set_cons_succ]
  refine take_in (i := 7) _ (some 10) (by kernel_rfl) (by kernel_rfl) (by kernel_rfl) (by kernel_rfl) (fun _ _ _ h => h) (by rfl) (fun o ho w hSw => by cases ho; (try dsimp only at hSw); (try go_split_ands); go_simp; (try with_reducible rfl)) hHeld ?_
  try simp only [Act.put, List.setIfInBounds_toArray, List.set_cons_zero, List.set_cons_succ]
  refine take_in (i := 8) _ (some 11) (by kernel_rfl) (by kernel_rfl) (by kernel_rfl) (by kernel_rfl) (fun _ _ _ h => h) (by rfl) (fun o ho w hSw => by cases ho; (try dsimp only at hSw); (try go_split_ands); go_simp; (try with_reducible rfl)) hHeld ?_
  try simp only [Act.put, List.setIfInBounds_toArray, List.set_cons_zero, List.set_cons_succ]
  refine take_in (i := 9) _ (some 12) (by kernel_rfl) (by kernel_rfl) (by kernel_rfl) (by kernel_rfl) (fun _ _ _ h => h) (by rfl) (fun o ho w hSw => by cases ho; (try dsimp only at hSw); (try go_split_ands); go_simp; (try with_reducible rfl)) hHeld ?_
  try simp only [Act.put, List.setIfInBounds_toArray, List.set_cons_zero, List.set_cons_succ]
  refine take_in (i := 10) _ (some 13) (by kernel_rfl) (by kernel_rfl) (by kernel_rfl) (by kernel_rfl) (fun _ _ _ h => h) (by rfl) (fun o ho w hSw => by cases ho; (try dsimp only at hSw); (try go_split_ands); go_simp; (try with_reducible rfl)) hHeld ?_
  try simp only [Act.put, List.setIfInBounds_toArray, List.set_cons_zero, List.set_cons_succ]
  refine take_in (i := 11) _ (some 14) (by kernel_rfl) (by kernel_rfl) (by kernel_rfl) (by kernel_rfl) (fun _ _ _ h => h) (by rfl) (fun o ho w hSw => by cases ho; (try dsimp only at hSw); (try go_split_ands); go_simp; (try with_reducible rfl)) hHeld ?_
  try simp only [Act.put, List.setIfInBounds_toArray, List.set_cons_zero, List.set_cons_succ]
  refine take_in (i := 12) _ (some 15) (by kernel_rfl) (by kernel_rfl) (by kernel_rfl) (by kernel_rfl) (fun _ _ _ h => h) (by rfl) (fun o ho w hSw => by cases ho; (try dsimp only at hSw); (try go_split_ands); go_simp; (try with_reducible rfl)) hHeld ?_
  try simp only [Act.put, List.setIfInBounds_toArray, List.set_cons_zero, List.set_cons_succ]
  refine take_in (i := 14) _ (some 17) (by kernel_rfl) (by kernel_rfl) (by kernel_rfl) (by kernel_rfl) (fun _ _ _ h => h) (by rfl) (fun o ho w hSw => by cases ho; (try dsimp only at hSw); (try go_split_ands); go_simp; (try with_reducible rfl)) hHeld ?_
  try simp only [Act.put, List.setIfInBounds_toArray, List.set_cons_zero, List.set_cons_succ]
  refine take_in (i := 15) _ (some 18) (by kernel_rfl) (by kernel_rfl) (by kernel_rfl) (by kernel_rfl) (fun _ _ _ h => h) (by rfl) (fun o ho w hSw => by cases ho; (try dsimp only at hSw); (try go_split_ands); go_simp; (try with_reducible rfl)) hHeld ?_
  try simp only [Act.put, List.setIfInBounds_toArray, List.set_cons_zero, List.set_cons_succ]
  refine wpAnyH_ready (rs := [13]) (by kernel_rfl) (by simp) ?_
  refine AllReadyH.cons (o := _) rfl (fun K hK => ?_) AllReadyH.nil
  go_simp
  go_at_call 112
  with_reducible refine (HK.out _).mono ?_
  rintro e wX ⟨rfl, rfl⟩
  refine hK.out _ _ (HS.out _ HC0.out) (fun hHeld => ?_)
  clear hK K
  try simp only [Act.put, List.setIfInBounds_toArray, List.set_cons_zero, List.set_cons_succ]
  refine take_in (i := 16) _ (some 19) (by kernel_rfl) (by kernel_rfl) (by kernel_rfl) (by kernel_rfl) (fun _ _ _ h => h) (by rfl) (fun o ho w hSw => by cases ho; (try dsimp only at hSw); (try go_split_ands); go_simp; (try with_reducible rfl)) hHeld ?_
  try simp only [Act.put, List.setIfInBounds_toArray, List.set_cons_zero, List.set_cons_succ]
  refine take_in (i := 17) _ (some 20) (by kernel_rfl) (by kernel_rfl) (by kernel_rfl) (by kernel_rfl) (fun _ _ _ h => h) (by rfl) (fun o ho w hSw => by cases ho; (try dsimp only at hSw); (try go_split_ands); go_simp; (try with_reducible rfl)) hHeld ?_
  try simp only [Act.put, List.setIfInBounds_toArray, List.set_cons_zero, List.set_cons_succ]
  refine take_in (i := 18) _ (some 2) (by kernel_rfl) (by kernel_rfl) (by kernel_rfl) (by kernel_rfl) (fun _ _ _ h => h) (by rfl) (fun o ho w hSw => by cases ho; (try dsimp only at hSw); (try go_split_ands); go_simp; (try with_reducible rfl)) hHeld ?_
  try simp only [Act.put, List.setIfInBounds_toArray, List.set_cons_zero, List.set_cons_succ]
  refine wpAnyH_done (by kernel_rfl) ?_ _
  refine NoPanic.normal ?_
  have HBF := Lib.hid (HB1.out.trans (HC0.out.mono HB1.out.size))
  go_wp2
  go_ret
  exact ⟨by rw [HF.out]; rfl, HBF.out⟩
/-- of -/
theorem of_any (a k : Nat) (w : World) (ha : a < 4294967296) (h1 : k ≤ 32) : Calls Tryz.prog 128 #[.int .u32 a, .int .i64 k] w fun e w' => e = .returned (.agg #[.int .u32 (keepN a k), .int .i64 k]) ∧ Below w.heap.size w w' := by
  have HK : Hid (∀ W, Calls Tryz.prog 112 #[.int .u32 a, .int .i64 k] W fun e w' => e = .returned (.int .u32 (keepN a k)) ∧ W = w') := fun W => keep_any a k W ha h1
  obtain ⟨kn, hkn⟩ : ∃ kn, keepN a k = kn := ⟨_, rfl⟩
  rw [hkn] at HK ⊢
  clear hkn
  go_enter Tryz.func128, Tryz.ntmps128
  go_wp2_with fail
  refine (HK.out _).mono ?_
  rintro e w1 ⟨rfl, rfl⟩
  go_wp2
  have HB : Hid (Blk (w.alloc (.cells #[.int .u32 kn, .int .i64 k] 65)) w.heap.size 65 [.int .u32 kn, .int .i64 k]) := Blk.new w _ _
  refine bodyPost_ret (results_cell_row rfl _ _ w.heap.size _ _ (0, 0) _ rfl HB.out Tryz.underlying65 rfl (by kernel_rfl)) rfl ⟨rfl, belowA _ _⟩
end Go.Proofs.YtplppbgkkfjknaaGreatDoor
namespace Go.Proofs.YtplppbgkkfjknaaGreatDoor
open Go.RowKit

set_option linter.unusedVariables false
set_option linter.unusedSimpArgs false
theorem keepN_zero {a : Nat} (ha : a < 4294967296) : keepN a 0 = 0 := by
  unfold keepN preN
  have e : a / 2 ^ (32 - 0) = 0 := Nat.div_eq_of_lt (by simpa using ha)
  rw [e, Nat.zero_mul]
theorem keepN_succ (a : Nat) {k : Nat} (hk : k < 32) : keepN a (k + 1) = keepN a k + (if bitN a k = true then 1 else 0) * 2 ^ (31 - k) := by
  unfold keepN
  rw [preN_succ a hk]
  have e1 : 32 - (k + 1) = 31 - k := by omega
  have e2 : (2 : Nat) ^ (32 - k) = 2 ^ (31 - k) * 2 := by rw [← Nat.pow_succ]; congr 1; omega
  rw [e1, e2, Nat.add_mul]
  congr 1
  rw [Nat.mul_comm 2 (preN a k), Nat.mul_assoc, Nat.mul_comm 2]
theorem or_num {a k : Nat} (ha : a < 4294967296) (hk : k < 32) (b : Nat) (hb : b ≤ 1) : bits BinOp.or IntKind.u32 (keepN a k : Int) ((b * 2 ^ (31 - k) : Nat) : Int) = ((keepN a k + b * 2 ^ (31 - k) : Nat) : Int) := by
  have hp : (2 : Nat) ^ (31 - k) < 4294967296 := by
    have : (2 : Nat) ^ (31 - k) ≤ 2 ^ 31 := Nat.pow_le_pow_right (by omega) (by omega)
    omega
  have hb2 : b * 2 ^ (31 - k) < 4294967296 := by
    rcases (show b = 0 ∨ b = 1 by omega) with rfl | rfl <;> omega
  have e32 : (2 : Nat) ^ 32 = 4294967296 := by decide
  have hka : keepN a k < 2 ^ 32 := by rw [e32]; exact Nat.lt_of_le_of_lt (keepN_le a k) ha
  have h1 := (bits_nat .u32 32 (by decide) wraps_u32_32 (keepN a k) (b * 2 ^ (31 - k)) hka (by rw [e32]; exact hb2)).2
  rw [h1]
  congr 1
  unfold keepN
  rw [← Nat.shiftLeft_eq, Nat.shiftLeft_add_eq_or_of_lt]
  have e2 : (2 : Nat) ^ (32 - k) = 2 ^ (31 - k) * 2 := by rw [← Nat.pow_succ]; congr 1; omega
  have : (0 : Nat) < 2 ^ (31 - k) := Nat.pow_pos (by omega)
  rcases (show b = 0 ∨ b = 1 by omega) with rfl | rfl <;> omega
theorem refLow_any (n : Int) (w : World) (h0 : 0 ≤ n) (h1 : n ≤ 32) : Calls Tryz.prog 96 #[.int .i64 n, .int .i64 32] w fun e w' => e = .returned (.int .i64 n) ∧ w = w' := by
  go_enter Tryz.func96, Tryz.ntmps96
  go_wp2
  go_ret
  exact ⟨rfl, rfl⟩
theorem refAt_any (a i : Nat) (w : World) (ha : a < 4294967296) (hi : i < 32) : Calls Tryz.prog 97 #[.int .u32 a, .int .i64 i] w fun e w' => e = .returned (.int .i64 (if bitN a i = true then 1 else 0)) ∧ w = w' := by
  have d0 : decide ((i : Int) < 0) = false := by simp
  have d1 : decide ((i : Int) > 31) = false := by simp; omega
  have HB := Lib.hid (bit_num ha hi)
  obtain ⟨bt, hbt⟩ : ∃ bt : Int, (if bitN a i = true then 1 else 0) = bt := ⟨_, rfl⟩
  rw [hbt] at HB ⊢
  have hw : wrap64 bt = bt := by
    have : bt = 1 ∨ bt = 0 := by rw [← hbt]; split <;> simp
    rcases this with rfl | rfl <;> simp [wrap64]
  clear hbt
  go_enter Tryz.func97, Tryz.ntmps97
  go_wp2
  go_ret
  exact ⟨ret_int (by rw [HB.out, hw]), rfl⟩
set_option maxHeartbeats 1000000 in
theorem refKeep_any (a n : Nat) (w : World) (ha : a < 4294967296) (h1 : n ≤ 32) : Calls Tryz.prog 62 #[.int .u32 a, .int .i64 n] w fun e w' => e = .returned (.int .u32 (keepN a n)) ∧ w = w' := by
  have HL := Lib.hid (refLow_any n w (by omega) (by omega))
  have HA : Hid (∀ i W, i < 32 → Calls Tryz.prog 97 #[.int .u32 a, .int .i64 (i : Nat)] W fun e w' => e = .returned (.int .i64 (if bitN a i = true then 1 else 0)) ∧ W = w') := fun i W hi => refAt_any a i W ha hi
  go_enter Tryz.func62, Tryz.ntmps62
  go_wp2_with fail
  refine HL.out.mono ?_
  rintro e w1 ⟨rfl, rfl⟩
  go_wp2
  go_loop [5, 9] (fun y i => ∃ k : Nat, k ≤ n ∧ i = .int .i64 k ∧ y = .int .u32 (keepN a k)) (fun _ i => n - (intOf i).toNat)
  case atStart => exact ⟨0, Nat.zero_le _, rfl, by rw [keepN_zero ha]; rfl⟩
  case round =>
    obtain ⟨k, hk, rfl, rfl⟩ := hrel
    by_cases hlt : k < n
    · have hk32 : k < 32 := by omega
      obtain ⟨bt, hbt, hb1⟩ : ∃ bt : Nat, (if bitN a k = true then 1 else 0) = bt ∧ bt ≤ 1 := ⟨_, rfl, by split <;> omega⟩
      have HO := Lib.hid (or_num ha hk32 bt hb1)
      have HS : Hid (keepN a (k + 1) = keepN a k + bt * 2 ^ (31 - k)) := by show _ = _; rw [keepN_succ a hk32, hbt]
      have hbi : (if bitN a k = true then (1 : Int) else 0) = (bt : Int) := by rw [← hbt]; split <;> rfl
      have HC := HA.out k w hk32
      rw [hbi] at HC
      have HC2 := Lib.hid HC
      clear HC hbi hbt
      go_wp2_with fail
      refine HC2.out.mono ?_
      rintro e w2 ⟨rfl, rfl⟩
      rcases (show bt = 0 ∨ bt = 1 by omega) with rfl | rfl
      · rw [Nat.zero_mul] at HO HS
        rw [Nat.add_zero] at HO HS
        go_wp2
        go_round
        case rel => exact ⟨k + 1, by omega, by go_num, int_eq (by rw [HS.out]; exact HO.out)⟩
        case measure => simp [intOf]; omega
      · rw [Nat.one_mul] at HO HS
        have hpw : ((2 : Int) ^ (31 - k) % 4294967296) = ((2 ^ (31 - k) : Nat) : Int) := by
          have hp : (2 : Nat) ^ (31 - k) < 4294967296 := by
            have : (2 : Nat) ^ (31 - k) ≤ 2 ^ 31 := Nat.pow_le_pow_right (by omega) (by omega)
            omega
          have e : ((2 : Int) ^ (31 - k)) = ((2 ^ (31 - k) : Nat) : Int) := by simp
          rw [e]
          exact Int.emod_eq_of_lt (Int.natCast_nonneg _) (Int.ofNat_lt.2 hp)
        have HPW := Lib.hid hpw
        clear hpw
        go_wp2
        go_round
        case rel => exact ⟨k + 1, by omega, by go_num, int_eq (by rw [HS.out, HPW.out]; exact HO.out)⟩
        case measure => simp [intOf]; omega
    · obtain rfl : k = n := by omega
      go_wp2
      go_ret
      exact ⟨rfl, rfl⟩
set_option maxRecDepth 100000 in
set_option maxHeartbeats 2000000 in
theorem refValid_any (a : Nat) (l : Int) (w : World) (ha : a < 4294967296) : Calls Tryz.prog 28 #[.agg #[.int .u32 a, .int .i64 l]] w fun e w' => e = .returned (.bool (validP a l)) ∧ Below w.heap.size w w' := by
  obtain ⟨w1, hw1⟩ : ∃ w1, w.alloc (.cells #[.int .u32 a, .int .i64 l] 65) = w1 := ⟨_, rfl⟩
  have hbA : Blk w1 w.heap.size 65 [.int .u32 a, .int .i64 l] := by rw [← hw1]; exact Blk.new w _ _
  have hb1 : Below w.heap.size w w1 := by rw [← hw1]; exact belowA _ _
  have HB1 := Lib.hid hb1
  have a0 := hbA.cell 0
  have a1 := hbA.cell 1
  simp only [List.getElem?_cons_zero, List.getElem?_cons_succ] at a0 a1
  have hlt : w.heap.size < w1.heap.size := hbA.lt
  have HKA := Lib.hid hbA
  clear hbA hb1
  by_cases h0 : 0 ≤ l
  case neg =>
    have d0 : decide (l ≥ 0) = false := by simp; omega
    have HF : Hid (validP a l = false) := by show _ = _; unfold validP; rw [decide_eq_false h0]; rfl
    go_enter Tryz.func28, Tryz.ntmps28
    go_upto_region 1 with fail
    try rw [hw1]
    clear hw1 h0
    go_quiet (fail)
    go_wp2
    go_ret
    exact ⟨by rw [HF.out]; rfl, below_drewN HB1.out _⟩
  obtain ⟨k, rfl⟩ : ∃ k : Nat, l = (k : Int) := ⟨l.toNat, by omega⟩
  have d0 : decide ((k : Int) ≥ 0) = true := by simp
  by_cases h1 : k ≤ 32
  case neg =>
    have d1 : decide ((k : Int) ≤ 32) = false := by simp; omega
    have HF : Hid (validP a k = false) := by show _ = _; unfold validP; rw [decide_eq_true h0, decide_eq_false (show ¬ (k : Int) ≤ 32 by omega)]; rfl
    go_enter Tryz.func28, Tryz.ntmps28
    go_upto_region 1 with fail
    try rw [hw1]
    clear hw1 h0 h1
    go_quiet (fail)
    go_wp2
    go_ret
    exact ⟨by rw [HF.out]; rfl, below_drewN HB1.out _⟩
  have d1 : decide ((k : Int) ≤ 32) = true := by simp; omega
  have HF : Hid (validP a k = ((keepN a k : Int) == (a : Int))) := by
    show _ = _
    unfold validP
    rw [decide_eq_true h0, decide_eq_true (show (k : Int) ≤ 32 by omega), Int.toNat_natCast, Bool.true_and, Bool.true_and]
    by_cases h : keepN a k = a <;> simp [h] <;> omega
  have HK : Hid (∀ W, Calls Tryz.prog 62 #[.int .u32 a, .int .i64 k] W fun e w' => e = .returned (.int .u32 (keepN a k)) ∧ W = w') := fun W => refKeep_any a k W ha h1
  obtain ⟨kn, hkn⟩ : ∃ kn, keepN a k = kn := ⟨_, rfl⟩
  rw [hkn] at HF HK
  have HS : Hid (∀ V, Below w1.heap.size w1 V → V.cell? ⟨w.heap.size, 0, none⟩ = some (.int .u32 a) ∧ V.cell? ⟨w.heap.size, 1, none⟩ = some (.int .i64 k)) := fun V h => ⟨(HKA.out.keep h).cell 0, (HKA.out.keep h).cell 1⟩
  have HC0 : Hid (Below w1.heap.size w1 w1.drew) := (Below.refl _ _).drew
  go_enter Tryz.func28, Tryz.ntmps28
  go_upto_region 1 with fail
  try rw [hw1]
  clear hw1 h0 h1 hkn
  refine wp_region_noPanic ?_
  refine wp_region_held_drew (S := fun V => V.cell? ⟨w.heap.size, 0, none⟩ = some (.int .u32 a) ∧ V.cell? ⟨w.heap.size, 1, none⟩ = some (.int .i64 k)) (by kernel_rfl) (HS.out _ HC0.out) (fun hHeld => ?_)
  refine take_in (i := 0) _ (some 3) (by kernel_rfl) (by kernel_rfl) (by kernel_rfl) (by kernel_rfl) (fun _ _ _ h => h) (by rfl) (fun o ho w hSw => by cases ho; (try dsimp only at hSw); (try go_split_ands); go_simp; (try with_reducible rfl)) hHeld ?_
  try simp only [Act.put, List.setIfInBounds_toArray, List.set_cons_zero, List.set_cons_succ]
  refine take_in (i := 1) _ (some 4) (by kernel_rfl) (by kernel_rfl) (by kernel_rfl) (by kernel_rfl) (fun _ _ _ h => h) (by rfl) (fun o ho w hSw => by cases ho; (try dsimp only at hSw); (try go_split_ands); go_simp; (try with_reducible rfl)) hHeld ?_
  try simp only [Act.put, List.setIfInBounds_toArray, List.set_cons_zero, List.set_cons_succ]
  refine take_in (i := 2) _ (some 5) (by kernel_rfl) (by kernel_rfl) (by kernel_rfl) (by kernel_rfl) (fun _ _ _ h => h) (by rfl) (fun o ho w hSw => by cases ho; (try dsimp only at hSw); (try go_split_ands); go_simp; (try with_reducible rfl)) hHeld ?_
  try simp only [Act.put, List.setIfInBounds_toArray, List.set_cons_zero, List.set_cons_succ]
  refine take_in (i := 3) _ (some 6) (by kernel_rfl) (by kernel_rfl) (by kernel_rfl) (by kernel_rfl) (fun _ _ _ h => h) (by rfl) (fun o ho w hSw => by cases ho; (try dsimp only at hSw); (try go_split_ands); go_simp; (try with_reducible rfl)) hHeld ?_
  try simp only [Act.put, List.setIfInBounds_toArray, List.set_cons_zero, List.set_cons_succ]
  refine take_in (i := 4) _ (some 7) (by kernel_rfl) (by kernel_rfl) (by kernel_rfl) (by kernel_rfl) (fun _ _ _ h => h) (by rfl) (fun o ho w hSw => by cases ho; (try dsimp only at hSw); (try go_split_ands); go_simp; (try with_reducible rfl)) hHeld ?_
  try simp only [Act.put, List.setIfInBounds_toArray, List.set_cons_zero, List.set_cons_succ]
  refine take_in (i := 5) _ (some 8) (by kernel_rfl) (by kernel_rfl) (by kernel_rfl) (by kernel_rfl) (fun _ _ _ h => h) (by rfl) (fun o ho w hSw => by cases ho; (try dsimp only at hSw); (try go_split_ands); go_simp; (try with_reducible rfl)) hHeld ?_
  try simp only [Act.put, List.setIfInBounds_toArray, List.set_cons_zero, List.set_cons_succ]
  refine take_in (i := 6) _ (some 9) (by kernel_rfl) (by kernel_rfl) (by kernel_rfl) (by kernel_rfl) (fun _ _ _ h => h) (by rfl) (fun o ho w hSw => by cases ho; (try dsimp only at hSw); (try go_split_ands); go_simp; (try with_reducible rfl)) hHeld ?_
  try simp only [Act.put, List.setIfInBounds_toArray, List.set_cons_zero, List.set_cons_succ]
  refine take_in (i := 7) _ (some 10) (by kernel_rfl) (by kernel_rfl) (by kernel_rfl) (by kernel_rfl) (fun _ _ _ h => h) (by rfl) (fun o ho w hSw => by cases ho; (try dsimp only at hSw); (try go_split_ands); go_simp; (try with_reducible rfl)) hHeld ?_
  try simp only [Act.put, List.setIfInBounds_toArray, List.set_cons_zero, List.set_cons_succ]
  refine take_in (i := 8) _ (some 11) (by kernel_rfl) (by kernel_rfl) (by kernel_rfl) (by kernel_rfl) (fun _ _ _ h => h) (by rfl) (fun o ho w hSw => by cases ho; (try dsimp only at hSw); (try go_split_ands); go_simp; (try with_reducible rfl)) hHeld ?_
  try simp only [Act.put, List.setIfInBounds_toArray, List.set_cons_zero, List.set_cons_succ]
  refine take_in (i := 9) _ (some 12) (by kernel_rfl) (by kernel_rfl) (by kernel_rfl) (by kernel_rfl) (fun _ _ _ h => h) (by rfl) (fun o ho w hSw => by cases ho; (try dsimp only at hSw); (try go_split_ands); go_simp; (try with_reducible rfl)) hHeld ?_
  try simp only [Act.put, List.setIfInBounds_toArray, List.set_cons_zero, List.set_cons_succ]
  refine take_in (i := 10) _ (some 13) (by kernel_rfl) (by kernel_rfl) (by kernel_rfl) (by kernel_rfl) (fun _ _ _ h => h) (by rfl) (fun o ho w hSw => by cases ho; (try dsimp only at hSw); (try go_split_ands); go_simp; (try with_reducible rfl)) hHeld ?_
  try simp only [Act.put, List.setIfInBounds_toArray, List.set_cons_zero, List.set_cons_succ]
  refine take_in (i := 11) _ (some 14) (by kernel_rfl) (by kernel_rfl) (by kernel_rfl) (by kernel_rfl) (fun _ _ _ h => h) (by rfl) (fun o ho w hSw => by cases ho; (try dsimp only at hSw); (try go_split_ands); go_simp; (try with_reducible rfl)) hHeld ?_
  try simp only [Act.put, List.setIfInBounds_toArray, List.set_cons_zero, List.set_cons_succ]
  refine take_in (i := 12) _ (some 15) (by kernel_rfl) (by kernel_rfl) (by kernel_rfl) (by kernel_rfl) (fun _ _ _ h => h) (by rfl) (fun o ho w hSw => by cases ho; (try dsimp only at hSw); (try go_split_ands); go_simp; (try with_reducible rfl)) hHeld ?_
  try simp only [Act.put, List.setIfInBounds_toArray, List.set_cons_zero, List.set_cons_succ]
  refine take_in (i := 14) _ (some 17) (by kernel_rfl) (by kernel_rfl) (by kernel_rfl) (by kernel_rfl) (fun _ _ _ h => h) (by rfl) (fun o ho w hSw => by cases ho; (try dsimp only at hSw); (try go_split_ands); go_simp; (try with_reducible rfl)) hHeld ?_
  try simp only [Act.put, List.setIfInBounds_toArray, List.set_cons_zero, List.set_cons_succ]
  refine take_in (i := 15) _ (some 18) (by kernel_rfl) (by kernel_rfl) (by kernel_rfl) (by kernel_rfl) (fun _ _ _ h => h) (by rfl) (fun o ho w hSw => by cases ho; (try dsimp only at hSw); (try go_split_ands); go_simp; (try with_reducible rfl)) hHeld ?_
  try simp only [Act.put, List.setIfInBounds_toArray, List.set_cons_zero, List.set_cons_succ]
  refine wpAnyH_ready (rs := [13]) (by kernel_rfl) (by simp) ?_
  refine AllReadyH.cons (o := _) rfl (fun K hK => ?_) AllReadyH.nil
  go_simp
  go_at_call 62
  with_reducible refine (HK.out _).mono ?_
  rintro e wX ⟨rfl, rfl⟩
  refine hK.out _ _ (HS.out _ HC0.out) (fun hHeld => ?_)
  clear hK K
  try simp only [Act.put, List.setIfInBounds_toArray, List.set_cons_zero, List.set_cons_succ]
  refine take_in (i := 16) _ (some 19) (by kernel_rfl) (by kernel_rfl) (by kernel_rfl) (by kernel_rfl) (fun _ _ _ h => h) (by rfl) (fun o ho w hSw => by cases ho; (try dsimp only at hSw); (try go_split_ands); go_simp; (try with_reducible rfl)) hHeld ?_
  try simp only [Act.put, List.setIfInBounds_toArray, List.set_cons_zero, List.set_cons_succ]
  refine take_in (i := 17) _ (some 20) (by kernel_rfl) (by kernel_rfl) (by kernel_rfl) (by kernel_rfl) (fun _ _ _ h => h) (by rfl) (fun o ho w hSw => by cases ho; (try dsimp only at hSw); (try go_split_ands); go_simp; (try with_reducible rfl)) hHeld ?_
  try simp only [Act.put, List.setIfInBounds_toArray, List.set_cons_zero, List.set_cons_succ]
  refine take_in (i := 18) _ (some 2) (by kernel_rfl) (by kernel_rfl) (by kernel_rfl) (by kernel_rfl) (fun _ _ _ h => h) (by rfl) (fun o ho w hSw => by cases ho; (try dsimp only at hSw); (try go_split_ands); go_simp; (try with_reducible rfl)) hHeld ?_
  try simp only [Act.put, List.setIfInBounds_toArray, List.set_cons_zero, List.set_cons_succ]
  refine wpAnyH_done (by kernel_rfl) ?_ _
  refine NoPanic.normal ?_
  have HBF := Lib.hid (HB1.out.trans (HC0.out.mono HB1.out.size))
  go_wp2
  go_ret
  exact ⟨by rw [HF.out]; rfl, HBF.out⟩
/-- Make -/
theorem refMake_any (a k : Nat) (w : World) (ha : a < 4294967296) (h1 : k ≤ 32) : Calls Tryz.prog 70 #[.int .u32 a, .int .i64 k] w fun e w' => e = .returned (.agg #[.int .u32 (keepN a k), .int .i64 k]) ∧ Below w.heap.size w w' := by
  have HK : Hid (∀ W, Calls Tryz.prog 62 #[.int .u32 a, .int .i64 k] W fun e w' => e = .returned (.int .u32 (keepN a k)) ∧ W = w') := fun W => refKeep_any a k W ha h1
  obtain ⟨kn, hkn⟩ : ∃ kn, keepN a k = kn := ⟨_, rfl⟩
  rw [hkn] at HK ⊢
  clear hkn
  go_enter Tryz.func70, Tryz.ntmps70
  go_wp2_with fail
  refine (HK.out _).mono ?_
  rintro e w1 ⟨rfl, rfl⟩
  go_wp2
  have HB : Hid (Blk (w.alloc (.cells #[.int .u32 kn, .int .i64 k] 65)) w.heap.size 65 [.int .u32 kn, .int .i64 k]) := Blk.new w _ _
  refine bodyPost_ret (results_cell_row rfl _ _ w.heap.size _ _ (0, 0) _ rfl HB.out Tryz.underlying65 rfl (by kernel_rfl)) rfl ⟨rfl, belowA _ _⟩
theorem eqInt (a b : Nat) : ((a : Int) == (b : Int)) = decide (a = b) := by
  by_cases h : a = b
  · simp [h]
  · have h2 : ((a : Int) == (b : Int)) = false := by simp; omega
    rw [h2, decide_eq_false h]
set_option maxHeartbeats 1000000 in
theorem refCompare_any (a b : Nat) (l m : Int) (w : World) : Calls Tryz.prog 29 #[.agg #[.int .u32 a, .int .i64 l], .agg #[.int .u32 b, .int .i64 m]] w fun e w' => e = .returned (.int .i64 (cmpP a l b m)) ∧ Below w.heap.size w w' := by
  obtain ⟨q, hq⟩ : ∃ q, cmpP a l b m = q := ⟨_, rfl⟩
  rw [hq]
  have HQ := Lib.hid hq
  clear hq
  go_enter Tryz.func29, Tryz.ntmps29
  go_wp2
  all_goals
    go_ret
    refine ⟨ret_int ?_, below3 (belowA _ _) (belowA _ _)⟩
    have h := HQ.out
    unfold cmpP at h
    clear HQ
    first
      | (simp at *; done)
      | (repeat' split at h) <;> first | omega | (simp at *; omega)
set_option maxHeartbeats 1000000 in
theorem compare_any (a b : Nat) (l m : Int) (w : World) : Calls Tryz.prog 85 #[.agg #[.int .u32 a, .int .i64 l], .agg #[.int .u32 b, .int .i64 m]] w fun e w' => e = .returned (.int .i64 (cmpP a l b m)) ∧ Below w.heap.size w w' := by
  obtain ⟨q, hq⟩ : ∃ q, cmpP a l b m = q := ⟨_, rfl⟩
  rw [hq]
  have HQ := Lib.hid hq
  clear hq
  go_enter Tryz.func85, Tryz.ntmps85
  go_wp2
  all_goals
    go_ret
    refine ⟨ret_int ?_, below3 (belowA _ _) (belowA _ _)⟩
    have h := HQ.out
    unfold cmpP at h
    clear HQ
    first
      | (simp at *; done)
      | (repeat' split at h) <;> first | omega | (simp at *; omega)
end Go.Proofs.YtplppbgkkfjknaaGreatDoor
