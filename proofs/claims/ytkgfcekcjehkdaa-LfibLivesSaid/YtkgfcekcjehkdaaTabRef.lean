/- The reference's Check. -/
import Derived.Test.YtkgfcekcjehkdaaTabChk
namespace Go.Proofs.Ytkgfcekcjehkdaa
open Go.RowKit

set_option maxRecDepth 100000 in
set_option maxHeartbeats 4000000 in
theorem refCheck_any (A : Option Addr) (n c B : Nat) (es : List EV) (w : World) (hx : Tab w B A n c es) (hB : B ≤ w.heap.size) (hn : n ≤ 140737488355328) (hlen : ∀ e ∈ es, e.n ≤ 140737488355328) :
    Calls Try.prog 13 #[.slice A n c] w fun e w' => e = .returned (.int .i64 (tabErr es)) ∧ Below w.heap.size w w' := by
  have hl := hx.len
  by_cases h64 : 2000 < n
  · have HE : Hid (tabErr es = 4) := by show _ = _; rw [tabErr, if_pos (by omega)]
    clear hx hl hlen
    go_enter Try.func13, Try.ntmps13
    go_wp2
    go_ret
    exact ⟨ret_int HE.out.symm, Below.refl _ _⟩
  have HE : Hid (tabErr es = firstE (entErr es) n) := by show _ = _; rw [tabErr, if_neg (by omega), hl]
  have HX := Lib.hid hx
  have HLen := Lib.hid hlen
  clear hx hl hlen
  go_enter Try.func13, Try.ntmps13
  go_wp2
  go_loopw [12] (fun i wr => ∃ k : Nat, k ≤ n ∧ i = .int .i64 k ∧ Hid (firstE (entErr es) k = 0) ∧ Hid (Below w.heap.size w wr)) (fun i _ => n - (intOf i).toNat)
  case atStart => exact ⟨0, Nat.zero_le _, rfl, rfl, Below.refl _ _⟩
  case round =>
    obtain ⟨k, hk, rfl, h0, hb⟩ := hrel
    by_cases hlt : k < n
    · have HX2 : Hid (Tab wr B A n c es) := HX.out.below (hb.out.mono hB)
      obtain ⟨b, o, x, rfl, hbB, hxk, hxh, c0, c1⟩ := HX2.out.get hlt
      have hxn := HLen.out x (List.mem_of_getElem? hxk)
      have HO := Lib.hid (entErr_of hxk)
      have HAT : Hid (∀ v : Int, entErr es k = v → v ≠ 0 → tabErr es = v) := fun v hv hne => by rw [HE.out, firstE_at h0.out (by rw [hv]; exact hne) hlt, hv]
      have HST : Hid (entErr es k = 0 → firstE (entErr es) (k + 1) = 0) := fun hv => firstE_step h0.out hv
      have hbw : b < wr.heap.size := by have := hb.out.size; omega
      have HB2 : Hid (Below w.heap.size w (wr.alloc (.cells #[.int .i64 x.inn, .slice x.A x.n x.c] 43))) := hb.out.alloc hb.out.size _
      have HXH : Hid (∀ W, Below wr.heap.size wr W → Hops W B x.A x.n x.c x.hs) := fun W h => hxh.below (h.mono (by have := hb.out.size; omega))
      clear hxh
      go_wp2_with fail
      refine (refLabel_any x.inn _).mono ?_
      rintro e w2 ⟨rfl, rfl⟩
      by_cases h2 : labOK x.inn = false
      · have HF : Hid (tabErr es = 5) := HAT.out 5 (by rw [HO.out, if_pos h2]) (by omega)
        rw [h2]
        clear hxk h2
        go_wp2_with fail
        go_ret
        exact ⟨ret_int HF.out.symm, HB2.out⟩
      have h2' : labOK x.inn = true := by simpa using h2
      have HO' : Hid (entErr es k = if 0 < k ∧ x.inn ≤ innAt es (k - 1) then 16 else hopsErr x.hs) := by show _ = _; rw [HO.out, if_neg h2]
      rw [h2']
      clear h2 h2' HO
      go_upto_region 8 with fail
      rcases Nat.eq_zero_or_pos k with hk0 | hk0
      case' inl =>
        subst hk0
        have HZ : Hid (entErr es 0 = hopsErr x.hs) := by show _ = _; rw [HO'.out, if_neg (by omega)]
        clear hxk
        go_quiet (fail)
      case' inr =>
        obtain ⟨b2, o2, y, hA2, _, hyk, _, e0, _⟩ := HX2.out.get (j := k - 1) (by omega)
        simp only [Option.some.injEq, Addr.mk.injEq] at hA2
        obtain ⟨rfl, rfl, _⟩ := hA2
        have hry := inn_of hyk
        have hws : IntKind.i64.wrap ((k : Int) - 1) = ((k - 1 : Nat) : Int) := by rw [IntWalk.i64_in _ (by omega)]; omega
        have hdk : decide (0 < k) = true := by simp; omega
        have hdk' : decide ((0 : Int) < (k : Int)) = true := by simp; omega
        rw [hry] at HO'
        by_cases hle : x.inn ≤ y.inn
        case pos =>
          have HF : Hid (tabErr es = 16) := HAT.out 16 (by rw [HO'.out, if_pos ⟨hk0, hle⟩]) (by omega)
          have dle : decide (x.inn ≤ y.inn) = true := by simp [hle]
          clear hxk hyk hry hle
          go_quiet (fail)
          go_wp2
          go_ret
          exact ⟨ret_int HF.out.symm, below_drewN HB2.out _⟩
        case' neg =>
          have HZ : Hid (entErr es k = hopsErr x.hs) := by show _ = _; rw [HO'.out, if_neg (by omega)]
          have dle : decide (x.inn ≤ y.inn) = false := by simp; omega
          clear hxk hyk hry hle hws hdk hdk'
          go_quiet (fail)
      all_goals
        obtain ⟨W1, hW1⟩ : ∃ W1, ((wr.alloc (.cells #[.int .i64 x.inn, .slice x.A x.n x.c] 43)).drewN nq) = W1 := ⟨_, rfl⟩
        have hd1 : W1.cell? ⟨wr.heap.size, 0, none⟩ = some (.int .i64 x.inn) := by subst hW1; go_simp
        have hd2 : W1.cell? ⟨wr.heap.size, 1, none⟩ = some (.slice x.A x.n x.c) := by subst hW1; go_simp
        have hds : wr.heap.size < W1.heap.size := by subst hW1; simp
        have HBW1 : Hid (Below w.heap.size w W1) := by subst hW1; exact below_drewN HB2.out _
        have HXH1 : Hid (Hops W1 B x.A x.n x.c x.hs) := by subst hW1; exact HXH.out _ (below_drewN ((Below.refl _ _).alloc (Nat.le_refl _) _) _)
        rw [hW1]
        have hbW : B ≤ W1.heap.size := Nat.le_trans hB HBW1.out.size
        have hhl := HXH1.out.len
        clear hW1 HB2 HXH c0 c1
        by_cases h65 : 64 < x.n
        · have HF : Hid (tabErr es = 4) := HAT.out 4 (by rw [HZ.out, hopsErr, if_pos (by omega)]) (by omega)
          clear hhl
          go_wp2
          go_ret
          exact ⟨ret_int HF.out.symm, HBW1.out⟩
        have HHE : Hid (hopsErr x.hs = firstE (hopErr x.hs) x.n) := by show _ = _; rw [hopsErr, if_neg (by omega), hhl]
        clear hhl
        obtain ⟨xi, xA, xn, xc, xhs⟩ := x
        dsimp only at *
        go_wp2
        obtain ⟨wo, rfl⟩ : ∃ wo : World, wo = wr := ⟨_, rfl⟩
        go_loopw [44] (fun i wr => ∃ q : Nat, q ≤ xn ∧ i = .int .i64 q ∧ Hid (firstE (hopErr xhs) q = 0) ∧ Hid (Below W1.heap.size W1 wr)) (fun i _ => xn - (intOf i).toNat)
        case atStart => exact ⟨0, Nat.zero_le _, rfl, rfl, Below.refl _ _⟩
        case round =>
          obtain ⟨q, hq, rfl, g0, gb⟩ := hrel
          have f1 : wr.cell? ⟨wo.heap.size, 1, none⟩ = some (.slice xA xn xc) := (gb.out.cell (p := ⟨wo.heap.size, 1, none⟩) hds).trans hd2
          have hos : wo.heap.size < wr.heap.size := Nat.lt_of_lt_of_le hds gb.out.size
          have HBR : Hid (Below w.heap.size w wr) := HBW1.out.trans (gb.out.mono HBW1.out.size)
          by_cases hlq : q < xn
          · have HXQ : Hid (Hops wr B xA xn xc xhs) := HXH1.out.below (gb.out.mono hbW)
            obtain ⟨b3, o3, y, rfl, hb3, hyk, f2, f3⟩ := HXQ.out.get hlq
            have KO := Lib.hid (hopErr_of hyk)
            have KAT : Hid (∀ v : Int, hopErr xhs q = v → v ≠ 0 → tabErr es = v) := fun v hv hne => HAT.out v (by rw [HZ.out, HHE.out, firstE_at g0.out (by rw [hv]; exact hne) hlq, hv]) hne
            have KST : Hid (hopErr xhs q = 0 → firstE (hopErr xhs) (q + 1) = 0) := fun hv => firstE_step g0.out hv
            have hbr : b3 < wr.heap.size := by have := gb.out.size; omega
            have HB3 : Hid (Below w.heap.size w (wr.alloc (.cells #[.int .u32 y.router, .int .i64 y.label] 45))) := HBR.out.alloc HBR.out.size _
            have GB3 : Hid (Below W1.heap.size W1 (wr.alloc (.cells #[.int .u32 y.router, .int .i64 y.label] 45))) := gb.out.alloc gb.out.size _
            clear hd1 hd2 HXH1 HX2 HX HE HAT HST HZ HHE
            by_cases hr : y.router = 0
            · have HF : Hid (tabErr es = 5) := KAT.out 5 (by rw [KO.out, if_pos (.inl hr)]) (by omega)
              have dr : (y.router == 0) = true := by simp [hr]
              clear hr hyk
              go_wp2_with fail
              go_ret
              exact ⟨ret_int HF.out.symm, HB3.out⟩
            have dr : (y.router == 0) = false := by simp [hr]
            have hlab : (y.label = -1) ∨ (y.label ≠ -1 ∧ labOK y.label = false) ∨ (y.label ≠ -1 ∧ labOK y.label = true) := by
              by_cases h1 : y.label = -1
              · exact .inl h1
              · cases h2 : labOK y.label
                · exact .inr (.inl ⟨h1, rfl⟩)
                · exact .inr (.inr ⟨h1, rfl⟩)
            rcases hlab with h1 | ⟨h1, h2⟩ | ⟨h1, h2⟩
            case' inl =>
              have dl : (y.label != -1) = false := by simp [h1]
              have KO' : Hid (hopErr xhs q = if 0 < q ∧ y.router ≤ rtAt xhs (q - 1) then 16 else 0) := by show _ = _; rw [KO.out, if_neg (by simp [hr, h1])]
              clear hr h1 KO
              go_upto_region 17 with fail
            case' inr.inl =>
              have HF : Hid (tabErr es = 5) := KAT.out 5 (by rw [KO.out, if_pos (.inr ⟨h1, h2⟩)]) (by omega)
              have dl : (y.label != -1) = true := by simp [h1]
              have H2 := Lib.hid h2
              clear hr hyk h1 h2
              go_wp2_with fail
              refine (refLabel_any y.label _).mono ?_
              rintro e w2 ⟨rfl, rfl⟩
              rw [H2.out]
              go_wp2_with fail
              go_ret
              exact ⟨ret_int HF.out.symm, HB3.out⟩
            case' inr.inr =>
              have dl : (y.label != -1) = true := by simp [h1]
              have KO' : Hid (hopErr xhs q = if 0 < q ∧ y.router ≤ rtAt xhs (q - 1) then 16 else 0) := by show _ = _; rw [KO.out, if_neg (by simp [hr, h2])]
              have H2 := Lib.hid h2
              clear hr h1 KO h2
              go_wp2_with fail
              refine (refLabel_any y.label _).mono ?_
              rintro e w2 ⟨rfl, rfl⟩
              rw [H2.out]
              go_upto_region 17 with fail
            all_goals
              rcases Nat.eq_zero_or_pos q with hk0 | hk0
              · subst hk0
                have HZ : Hid (firstE (hopErr xhs) (0 + 1) = 0) := KST.out (by rw [KO'.out, if_neg (by omega)])
                clear hyk
                go_quiet (fail)
                go_wp2
                go_roundw
                case rel => first | exact ⟨0 + 1, by omega, by go_num, HZ, below_drewN GB3.out _⟩ | ((repeat apply Exists.intro); exact ⟨⟨0 + 1, by omega, by go_num, HZ, below_drewN GB3.out _⟩, rfl⟩)
                case measure => simp [intOf]; omega
              · obtain ⟨b2, o2, z, hA2, _, hzk, e0, _⟩ := HXQ.out.get (j := q - 1) (by omega)
                simp only [Option.some.injEq, Addr.mk.injEq] at hA2
                obtain ⟨rfl, rfl, _⟩ := hA2
                have hrz := rt_of hzk
                have hws : IntKind.i64.wrap ((q : Int) - 1) = ((q - 1 : Nat) : Int) := by rw [IntWalk.i64_in _ (by omega)]; omega
                have hdk : decide (0 < q) = true := by simp; omega
                have hdk' : decide ((0 : Int) < (q : Int)) = true := by simp; omega
                rw [hrz] at KO'
                by_cases hle : y.router ≤ z.router
                · have HF : Hid (tabErr es = 16) := KAT.out 16 (by rw [KO'.out, if_pos ⟨hk0, hle⟩]) (by omega)
                  have dle : decide (y.router ≤ z.router) = true := by simp [hle]
                  clear hyk hzk hrz hle
                  go_quiet (fail)
                  go_wp2
                  go_ret
                  exact ⟨ret_int HF.out.symm, below_drewN HB3.out _⟩
                · have HZ : Hid (firstE (hopErr xhs) (q + 1) = 0) := KST.out (by rw [KO'.out, if_neg (by omega)])
                  have dle : decide (y.router ≤ z.router) = false := by simp; omega
                  clear hyk hzk hrz hle
                  go_quiet (fail)
                  go_wp2
                  go_roundw
                  case rel => first | exact ⟨q + 1, by omega, by go_num, HZ, below_drewN GB3.out _⟩ | ((repeat apply Exists.intro); exact ⟨⟨q + 1, by omega, by go_num, HZ, below_drewN GB3.out _⟩, rfl⟩)
                  case measure => simp [intOf]; omega
          · obtain rfl : q = xn := by omega
            have HN := Lib.hid (HST.out (by rw [HZ.out, HHE.out, g0.out]))
            clear hd1 hd2
            go_wp2
            go_roundw
            case rel => exact ⟨_, by omega, by go_num, HN, HBR⟩
            case measure => simp [intOf]; omega
    · obtain rfl : k = n := by omega
      have HF : Hid (tabErr es = 0) := by show _ = _; rw [HE.out, h0.out]
      go_wp2
      go_ret
      exact ⟨ret_int HF.out.symm, hb.out⟩
end Go.Proofs.Ytkgfcekcjehkdaa
