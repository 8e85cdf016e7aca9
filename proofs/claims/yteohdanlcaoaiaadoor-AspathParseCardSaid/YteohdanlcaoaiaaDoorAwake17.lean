/- The chapter's examples. -/
import Derived.Test.YteohdanlcaoaiaaDoorMerge
namespace Go.Proofs.YteohdanlcaoaiaaDoor
open Go.RowKit

theorem dec_step {u : Nat} (h : ¬ u < 10) : Lib.decDigits u = Lib.decDigits (u / 10) ++ [UInt8.ofNat (48 + u % 10)] := by rw [Lib.decDigits, dif_neg h]
theorem it65001 : Lib.itoa 65001 = [54, 53, 48, 48, 49] := by
  unfold Lib.itoa
  rw [if_neg (by decide), show (65001 : Int).toNat = 65001 from rfl, dec_step (by decide), dec_step (by decide), dec_step (by decide), dec_step (by decide), Lib.decDigits_one (by decide)]
  rfl
theorem it65002 : Lib.itoa 65002 = [54, 53, 48, 48, 50] := by
  unfold Lib.itoa
  rw [if_neg (by decide), show (65002 : Int).toNat = 65002 from rfl, dec_step (by decide), dec_step (by decide), dec_step (by decide), dec_step (by decide), Lib.decDigits_one (by decide)]
  rfl
theorem it65003 : Lib.itoa 65003 = [54, 53, 48, 48, 51] := by
  unfold Lib.itoa
  rw [if_neg (by decide), show (65003 : Int).toNat = 65003 from rfl, dec_step (by decide), dec_step (by decide), dec_step (by decide), dec_step (by decide), Lib.decDigits_one (by decide)]
  rfl
theorem it65004 : Lib.itoa 65004 = [54, 53, 48, 48, 52] := by
  unfold Lib.itoa
  rw [if_neg (by decide), show (65004 : Int).toNat = 65004 from rfl, dec_step (by decide), dec_step (by decide), dec_step (by decide), dec_step (by decide), Lib.decDigits_one (by decide)]
  rfl
theorem it65010 : Lib.itoa 65010 = [54, 53, 48, 49, 48] := by
  unfold Lib.itoa
  rw [if_neg (by decide), show (65010 : Int).toNat = 65010 from rfl, dec_step (by decide), dec_step (by decide), dec_step (by decide), dec_step (by decide), Lib.decDigits_one (by decide)]
  rfl
def pA : Path := [(2, [65001, 65002]), (1, [65003, 65004])]
def pB : Path := [(2, [65001, 65004])]
def pC : Path := [(2, [65001, 65002, 65003])]
def pM : Path := [(2, [65001]), (1, [65002, 65003, 65004])]
def pD : Path := [(3, [65010]), (2, [65001, 65004])]
def sA : ByteArray := ⟨#[54, 53, 48, 48, 49, 32, 54, 53, 48, 48, 50, 32, 123, 54, 53, 48, 48, 51, 44, 54, 53, 48, 48, 52, 125]⟩
def sB : ByteArray := ⟨#[54, 53, 48, 48, 49, 32, 54, 53, 48, 48, 52]⟩
def sC : ByteArray := ⟨#[54, 53, 48, 48, 49, 32, 54, 53, 48, 48, 50, 32, 54, 53, 48, 48, 51]⟩
def sX : ByteArray := ⟨#[54, 53, 48, 48, 49, 32, 32, 54, 53, 48, 48, 50]⟩
def sM : ByteArray := ⟨#[54, 53, 48, 48, 49, 32, 123, 54, 53, 48, 48, 50, 44, 54, 53, 48, 48, 51, 44, 54, 53, 48, 48, 52, 125]⟩
def sD : ByteArray := ⟨#[40, 54, 53, 48, 49, 48, 41, 32, 54, 53, 48, 48, 49, 32, 54, 53, 48, 48, 52]⟩
theorem errA : pathErr pA = 0 := by decide
set_option linter.unusedSimpArgs false in
theorem txtA : strB (txt pA) = sA := by
  refine bytes_ext ?_
  rw [strB_list]
  simp [txt, pA, grp, seqB, jl, wordR, sepd, it65001, it65002, it65003, it65004, it65010, sA]
theorem errB : pathErr pB = 0 := by decide
set_option linter.unusedSimpArgs false in
theorem txtB : strB (txt pB) = sB := by
  refine bytes_ext ?_
  rw [strB_list]
  simp [txt, pB, grp, seqB, jl, wordR, sepd, it65001, it65002, it65003, it65004, it65010, sB]
theorem errC : pathErr pC = 0 := by decide
set_option linter.unusedSimpArgs false in
theorem txtC : strB (txt pC) = sC := by
  refine bytes_ext ?_
  rw [strB_list]
  simp [txt, pC, grp, seqB, jl, wordR, sepd, it65001, it65002, it65003, it65004, it65010, sC]
theorem errM : pathErr pM = 0 := by decide
set_option linter.unusedSimpArgs false in
theorem txtM : strB (txt pM) = sM := by
  refine bytes_ext ?_
  rw [strB_list]
  simp [txt, pM, grp, seqB, jl, wordR, sepd, it65001, it65002, it65003, it65004, it65010, sM]
theorem errD : pathErr pD = 0 := by decide
set_option linter.unusedSimpArgs false in
theorem txtD : strB (txt pD) = sD := by
  refine bytes_ext ?_
  rw [strB_list]
  simp [txt, pD, grp, seqB, jl, wordR, sepd, it65001, it65002, it65003, it65004, it65010, sD]
theorem parseA : parseR sA = (pA, 0) := by rw [← txtA]; exact parse_back errA
theorem parseB : parseR sB = (pB, 0) := by rw [← txtB]; exact parse_back errB
theorem parseC : parseR sC = (pC, 0) := by rw [← txtC]; exact parse_back errC
theorem litM : strB (txt pM) = (⟨#[54, 53, 48, 48, 49, 32, 123, 54, 53, 48, 48, 50, 44, 54, 53, 48, 48, 51, 44, 54, 53, 48, 48, 52, 125]⟩ : ByteArray) := txtM
theorem textM : textR pM = (txt pM, 0) := if_pos errM
theorem litD : strB (txt pD) = (⟨#[40, 54, 53, 48, 49, 48, 41, 32, 54, 53, 48, 48, 49, 32, 54, 53, 48, 48, 52]⟩ : ByteArray) := txtD
theorem textD : textR pD = (txt pD, 0) := if_pos errD
theorem piecesX : pieces sX = [⟨#[54, 53, 48, 48, 49]⟩, ⟨#[]⟩, ⟨#[54, 53, 48, 48, 50]⟩] := by decide
theorem parseX : parseR sX = ([], 2) := by
  refine parseR_words (ps := []) (e := 2) ?_ (by decide)
  refine wordsR_gap (p := ⟨#[]⟩) (by decide) (by decide) ?_ rfl
  rw [piecesX]
  simp
theorem mergeM : mergeR pC pB = (pM, 0) := by decide
theorem prepD : prependR pB 3 65010 1 = (pD, 0) := by decide
theorem firstD : firstR pD = (65001, true) := by decide
theorem originA : originR pA = (0, false) := by decide
theorem lenA : lengthR pA = 3 := by decide
theorem lenD : lengthR pD = 2 := by decide
theorem hasA : decide ((65004 : Int) ∈ flat pA) = true := by decide
theorem hasA1 : decide ((1 : Int) ∈ flat pA) = false := by decide
theorem flatA : (flat pA).length = 4 := by decide
theorem stripD : (stripR pD).length = 1 := by decide
theorem errK : pathErr [(5, [])] = 15 := by decide
theorem smA : Sm pA := by unfold Sm; decide
theorem smB : Sm pB := by unfold Sm; decide
theorem smC : Sm pC := by unfold Sm; decide
theorem smM : Sm pM := by unfold Sm; decide
theorem smD : Sm pD := by unfold Sm; decide
theorem segs_lit (W : World) (k : Int) : Segs (W.alloc (.cells #[.int .i64 k, .slice none 0 0] 46)) (W.alloc (.cells #[.int .i64 k, .slice none 0 0] 46)).heap.size (some ⟨W.heap.size, 0, none⟩) 1 1 [(k, [])] :=
  ⟨[⟨k, none, 0, 0, []⟩], ⟨Cells.of_own (World.ownsRow_lit (base := W.heap.size) (size := 2) W #[.int .i64 k, .slice none 0 0] 1 (Nat.le_refl _) (by simp [maxLen]) rfl), rfl⟩, rfl, fun t ht => by
    obtain rfl : t = ⟨k, none, 0, 0, []⟩ := by simpa using ht
    exact Ints.nil _ _ _⟩
set_option maxRecDepth 100000 in
set_option maxHeartbeats 8000000 in
theorem awake_any (w : World) (henv : Env w) : Calls Tryd.prog 12 #[] w fun e w' => e = .returned (.bool true) ∧ Below w.heap.size w w' := by
  have HENV := Lib.hid henv
  have HB0 : Hid (Below w.heap.size w w) := Below.refl _ _
  clear henv
  go_enter Tryd.func12, Tryd.ntmps12
  go_wp2_with fail
  refine (parse_any sA w (by decide) HENV.out).mono ?_
  rintro e w1 ⟨AA, nA, cA, rfl, hoA, hb1⟩
  rw [parseA] at hoA ⊢
  have HB1 := Lib.hid (below3 HB0.out hb1)
  clear hb1 HB0
  dsimp only at hoA ⊢
  have HA1 := Lib.hid hoA.segs
  clear hoA
  go_wp2_with fail
  refine (parse_any sB w1 (by decide) (HENV.out.below HB1.out)).mono ?_
  rintro e w2 ⟨AB, nB, cB, rfl, hoB, hb2⟩
  rw [parseB] at hoB ⊢
  have HB2 := Lib.hid (below3 HB1.out hb2)
  have HA2 := Lib.hid (HA1.out.grow hb2 (Nat.le_refl _))
  clear hb2 HB1 HA1
  dsimp only at hoB ⊢
  have HBP2 := Lib.hid hoB.segs
  clear hoB
  go_wp2_with fail
  refine (parse_any sC w2 (by decide) (HENV.out.below HB2.out)).mono ?_
  rintro e w3 ⟨AC, nC, cC, rfl, hoC, hb3⟩
  rw [parseC] at hoC ⊢
  have HB3 := Lib.hid (below3 HB2.out hb3)
  have HA3 := Lib.hid (HA2.out.grow hb3 (Nat.le_refl _))
  have HBP3 := Lib.hid (HBP2.out.grow hb3 (Nat.le_refl _))
  clear hb3 HB2 HA2 HBP2
  dsimp only at hoC ⊢
  have HC3 := Lib.hid hoC.segs
  clear hoC
  go_wp2_with fail
  refine (merge_any AC AB nC cC nB cB pC pB w3 HC3.out HBP3.out smC smB).mono ?_
  rintro e w4 ⟨AM, nM, cM, rfl, hoM, hb4⟩
  rw [mergeM] at hoM ⊢
  have HB4 := Lib.hid (below3 HB3.out hb4)
  have HA4 := Lib.hid (HA3.out.grow hb4 (Nat.le_refl _))
  have HBP4 := Lib.hid (HBP3.out.grow hb4 (Nat.le_refl _))
  clear hb4 HB3 HA3 HBP3
  dsimp only at hoM ⊢
  have HM4 := Lib.hid hoM.segs
  clear hoM
  go_wp2_with fail
  refine (text_any AM nM cM pM w4 HM4.out smM (HENV.out.below HB4.out)).mono ?_
  rintro e w5 ⟨rfl, hb5⟩
  rw [textM]
  dsimp only
  rw [litM]
  have HB5 := Lib.hid (below3 HB4.out hb5)
  have HA5 := Lib.hid (HA4.out.grow hb5 (Nat.le_refl _))
  have HBP5 := Lib.hid (HBP4.out.grow hb5 (Nat.le_refl _))
  clear hb5 HB4 HA4 HBP4
  go_wp2_with fail
  refine (prepend_any AB nB cB pB 3 65010 1 w5 HBP5.out smB).mono ?_
  rintro e w6 ⟨AD, nD, cD, rfl, hoD, hb6⟩
  rw [prepD] at hoD ⊢
  have HB6 := Lib.hid (below3 HB5.out hb6)
  have HA6 := Lib.hid (HA5.out.grow hb6 (Nat.le_refl _))
  clear hb6 HB5 HA5
  dsimp only at hoD ⊢
  have HD6 := Lib.hid hoD.segs
  clear hoD
  go_wp2_with fail
  refine (text_any AD nD cD pD w6 HD6.out smD (HENV.out.below HB6.out)).mono ?_
  rintro e w7 ⟨rfl, hb7⟩
  rw [textD]
  dsimp only
  rw [litD]
  have HB7 := Lib.hid (below3 HB6.out hb7)
  have HA7 := Lib.hid (HA6.out.grow hb7 (Nat.le_refl _))
  have HD7 := Lib.hid (HD6.out.grow hb7 (Nat.le_refl _))
  clear hb7 HB6 HA6 HD6
  go_wp2_with fail
  refine (first_any AD nD cD pD w7 HD7.out (by have := HD7.out.len; have := smD; unfold Sm at this; omega)).mono ?_
  rintro e w8 ⟨rfl, hb8⟩
  rw [firstD]
  dsimp only
  have HB8 := Lib.hid (below3 HB7.out hb8)
  have HA8 := Lib.hid (HA7.out.grow hb8 (Nat.le_refl _))
  have HD8 := Lib.hid (HD7.out.grow hb8 (Nat.le_refl _))
  clear hb8 HB7 HA7 HD7
  go_wp2_with fail
  refine (origin_any AA nA cA pA w8 HA8.out (by have := HA8.out.len; have := smA; unfold Sm at this; omega)).mono ?_
  rintro e w9 ⟨rfl, hb9⟩
  rw [originA]
  dsimp only
  have HB9 := Lib.hid (below3 HB8.out hb9)
  have HA9 := Lib.hid (HA8.out.grow hb9 (Nat.le_refl _))
  have HD9 := Lib.hid (HD8.out.grow hb9 (Nat.le_refl _))
  clear hb9 HB8 HA8 HD8
  go_wp2_with fail
  refine (parse_any sX w9 (by decide) (HENV.out.below HB9.out)).mono ?_
  rintro e w10 ⟨AX, nX, cX, rfl, hoX, hb10⟩
  rw [parseX]
  dsimp only
  clear hoX
  have HB10 := Lib.hid (below3 HB9.out hb10)
  have HA10 := Lib.hid (HA9.out.grow hb10 (Nat.le_refl _))
  have HD10 := Lib.hid (HD9.out.grow hb10 (Nat.le_refl _))
  clear hb10 HB9 HA9 HD9
  go_wp2_with fail
  refine (length_any AA nA cA pA w10 HA10.out smA).mono ?_
  rintro e w11 ⟨rfl, hb11⟩
  rw [lenA]
  have HB11 := Lib.hid (below3 HB10.out hb11)
  have HA11 := Lib.hid (HA10.out.grow hb11 (Nat.le_refl _))
  have HD11 := Lib.hid (HD10.out.grow hb11 (Nat.le_refl _))
  clear hb11 HB10 HA10 HD10
  go_wp2_with fail
  refine (length_any AD nD cD pD w11 HD11.out smD).mono ?_
  rintro e w12 ⟨rfl, hb12⟩
  rw [lenD]
  have HB12 := Lib.hid (below3 HB11.out hb12)
  have HA12 := Lib.hid (HA11.out.grow hb12 (Nat.le_refl _))
  have HD12 := Lib.hid (HD11.out.grow hb12 (Nat.le_refl _))
  clear hb12 HB11 HA11 HD11
  go_wp2_with fail
  refine (has_any AA nA cA pA 65004 w12 HA12.out smA).mono ?_
  rintro e w13 ⟨rfl, hb13⟩
  rw [hasA]
  have HB13 := Lib.hid (below3 HB12.out hb13)
  have HA13 := Lib.hid (HA12.out.grow hb13 (Nat.le_refl _))
  have HD13 := Lib.hid (HD12.out.grow hb13 (Nat.le_refl _))
  clear hb13 HB12 HA12 HD12
  go_wp2_with fail
  refine (has_any AA nA cA pA 1 w13 HA13.out smA).mono ?_
  rintro e w14 ⟨rfl, hb14⟩
  rw [hasA1]
  have HB14 := Lib.hid (below3 HB13.out hb14)
  have HA14 := Lib.hid (HA13.out.grow hb14 (Nat.le_refl _))
  have HD14 := Lib.hid (HD13.out.grow hb14 (Nat.le_refl _))
  clear hb14 HB13 HA13 HD13
  have hb15 := belowA w14 (.cells #[.int .i64 5, .slice none 0 0] 46)
  have HK := Lib.hid (segs_lit w14 5)
  have HA15' := Lib.hid (HA14.out.grow hb15 (Nat.le_refl _))
  have HD15' := Lib.hid (HD14.out.grow hb15 (Nat.le_refl _))
  have HB15' := Lib.hid (below3 HB14.out hb15)
  clear hb15
  go_wp2_with fail
  refine (check_any _ 1 1 [(5, [])] _ HK.out (by omega)).mono ?_
  rintro e w15 ⟨rfl, hb15⟩
  rw [errK]
  have HB15 := Lib.hid (below3 HB15'.out hb15)
  have HA15 := Lib.hid (HA15'.out.grow hb15 (Nat.le_refl _))
  have HD15 := Lib.hid (HD15'.out.grow hb15 (Nat.le_refl _))
  clear hb15 HK HA15' HD15' HB15' HA14 HD14 HB14
  go_wp2_with fail
  refine (flat_any AA nA cA pA w15 HA15.out (by have := HA15.out.len; have := smA; unfold Sm at this; omega) (by rw [flatA]; omega)).mono ?_
  rintro e w16 ⟨AF, cF, rfl, hoF, hb16⟩
  rw [flatA]
  clear hoF
  have HB16 := Lib.hid (below3 HB15.out hb16)
  have HD16 := Lib.hid (HD15.out.grow hb16 (Nat.le_refl _))
  clear hb16 HB15 HD15
  go_wp2_with fail
  refine (strip_any AD nD cD _ pD w16 HD16.out (Nat.le_refl _) smD).mono ?_
  rintro e w17 ⟨AS, nS, cS, rfl, hoS, hb17⟩
  obtain rfl : nS = 1 := by rw [← hoS.len, stripD]
  have HB17 := Lib.hid (below3 HB16.out hb17)
  clear hb17 hoS
  go_wp2
  go_ret
  exact ⟨rfl, HB17.out⟩
end Go.Proofs.YteohdanlcaoaiaaDoor
