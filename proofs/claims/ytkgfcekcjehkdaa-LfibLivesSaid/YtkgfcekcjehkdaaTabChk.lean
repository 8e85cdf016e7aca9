/- lfib.Check. -/
import Derived.Test.YtkgfcekcjehkdaaHops
namespace Go.Proofs.Ytkgfcekcjehkdaa
open Go.RowKit

theorem entErr_of {es : List EV} {k : Nat} {x : EV} (hx : es[k]? = some x) : entErr es k = if labOK x.inn = false then 5 else if 0 < k ∧ x.inn ≤ innAt es (k - 1) then 16 else hopsErr x.hs := by
  unfold entErr innAt hsAt
  rw [hx]
  rfl
theorem inn_of {es : List EV} {k : Nat} {x : EV} (hx : es[k]? = some x) : innAt es k = x.inn := by unfold innAt; rw [hx]; rfl

set_option maxHeartbeats 2000000 in
theorem check_any (A : Option Addr) (n c B : Nat) (es : List EV) (w : World) (hx : Tab w B A n c es) (hB : B ≤ w.heap.size) (hn : n ≤ 140737488355328) (hlen : ∀ e ∈ es, e.n ≤ 140737488355328) :
    Calls Try.prog 12 #[.slice A n c] w fun e w' => e = .returned (.int .i64 (tabErr es)) ∧ Below w.heap.size w w' := by
  have hl := hx.len
  by_cases h64 : 2000 < n
  · have HE : Hid (tabErr es = 4) := by show _ = _; rw [tabErr, if_pos (by omega)]
    clear hx hl hlen
    go_enter Try.func12, Try.ntmps12
    go_wp2
    go_ret
    exact ⟨ret_int HE.out.symm, Below.refl _ _⟩
  have HE : Hid (tabErr es = firstE (entErr es) n) := by show _ = _; rw [tabErr, if_neg (by omega), hl]
  have HX := Lib.hid hx
  have HLen := Lib.hid hlen
  clear hx hl hlen
  go_enter Try.func12, Try.ntmps12
  go_wp2
  go_loopw [11] (fun i wr => ∃ k : Nat, k ≤ n ∧ i = .int .i64 k ∧ Hid (firstE (entErr es) k = 0) ∧ Hid (Below w.heap.size w wr)) (fun i _ => n - (intOf i).toNat)
  case atStart => exact ⟨0, Nat.zero_le _, rfl, rfl, Below.refl _ _⟩
  case round =>
    obtain ⟨k, hk, rfl, h0, hb⟩ := hrel
    by_cases hlt : k < n
    · have HX2 : Hid (Tab wr B A n c es) := HX.out.below (hb.out.mono hB)
      obtain ⟨b, o, x, rfl, hbB, hxk, hxh, c0, c1⟩ := HX2.out.get hlt
      have hxn := HLen.out x (List.mem_of_getElem? hxk)
      have HO := Lib.hid (entErr_of hxk)
      have HAT : Hid (∀ v : Int, entErr es k = v → v ≠ 0 → tabErr es = v) := fun v hv hne => by rw [HE.out, firstE_at h0.out (by rw [hv]; exact hne) hlt, hv]
      have HST : Hid (entErr es k = 0 → firstE (entErr es) (k + 1) = 0) := fun hv => firstE_step h0.out hv
      have hbw : b < wr.heap.size := by have := hb.out.size; omega
      have HB2 : Hid (Below w.heap.size w (wr.alloc (.cells #[.int .i64 x.inn, .slice x.A x.n x.c] 43))) := hb.out.alloc hb.out.size _
      have HXH : Hid (∀ W, Below wr.heap.size wr W → Hops W B x.A x.n x.c x.hs) := fun W h => hxh.below (h.mono (by have := hb.out.size; omega))
      clear hxh
      go_wp2_with fail
      refine (label_any x.inn _).mono ?_
      rintro e w2 ⟨rfl, rfl⟩
      by_cases h2 : labOK x.inn = false
      · have HF : Hid (tabErr es = 5) := HAT.out 5 (by rw [HO.out, if_pos h2]) (by omega)
        rw [h2]
        clear hxk h2
        go_wp2_with fail
        go_ret
        exact ⟨ret_int HF.out.symm, HB2.out⟩
      have h2' : labOK x.inn = true := by simpa using h2
      have HO' : Hid (entErr es k = if 0 < k ∧ x.inn ≤ innAt es (k - 1) then 16 else hopsErr x.hs) := by show _ = _; rw [HO.out, if_neg h2]
      rw [h2']
      clear h2 h2' HO
      go_upto_region 8 with fail
      rcases Nat.eq_zero_or_pos k with hk0 | hk0
      case' inl =>
        subst hk0
        have HZ : Hid (entErr es 0 = hopsErr x.hs) := by show _ = _; rw [HO'.out, if_neg (by omega)]
        clear hxk
        go_quiet (fail)
        go_wp2_with fail
      case' inr =>
        obtain ⟨b2, o2, y, hA2, _, hyk, _, e0, _⟩ := HX2.out.get (j := k - 1) (by omega)
        simp only [Option.some.injEq, Addr.mk.injEq] at hA2
        obtain ⟨rfl, rfl, _⟩ := hA2
        have hry := inn_of hyk
        have hws : IntKind.i64.wrap ((k : Int) - 1) = ((k - 1 : Nat) : Int) := by rw [IntWalk.i64_in _ (by omega)]; omega
        have hdk : decide (0 < k) = true := by simp; omega
        have hdk' : decide ((0 : Int) < (k : Int)) = true := by simp; omega
        rw [hry] at HO'
        by_cases hle : x.inn ≤ y.inn
        case pos =>
          have HF : Hid (tabErr es = 16) := HAT.out 16 (by rw [HO'.out, if_pos ⟨hk0, hle⟩]) (by omega)
          have dle : decide (x.inn ≤ y.inn) = true := by simp [hle]
          clear hxk hyk hry hle
          go_quiet (fail)
          go_wp2
          go_ret
          exact ⟨ret_int HF.out.symm, below_drewN HB2.out _⟩
        case' neg =>
          have HZ : Hid (entErr es k = hopsErr x.hs) := by show _ = _; rw [HO'.out, if_neg (by omega)]
          have dle : decide (x.inn ≤ y.inn) = false := by simp; omega
          clear hxk hyk hry hle hws hdk hdk'
          go_quiet (fail)
          go_wp2_with fail
      all_goals
        refine (checkHops_any x.A x.n x.c B x.hs _ (HXH.out _ (below_drewN ((Below.refl _ _).alloc (Nat.le_refl _) _) _)) (by have := hb.out.size; simp; omega) hxn).mono ?_
        rintro e w3 ⟨rfl, hb3⟩
        have HB3 : Hid (Below w.heap.size w w3) := (below_drewN HB2.out _).trans (hb3.mono (below_drewN HB2.out _).size)
        obtain ⟨he, hhe⟩ : ∃ e, hopsErr x.hs = e := ⟨_, rfl⟩
        rw [hhe] at HZ ⊢
        clear hb3 hhe c0 c1
        by_cases hz : he = 0
        · subst hz
          have HN := Lib.hid (HST.out HZ.out)
          go_wp2
          go_roundw
          case rel => exact ⟨_, by omega, by go_num, HN, HB3⟩
          case measure => simp [intOf]; omega
        · have HF := Lib.hid (HAT.out he HZ.out hz)
          have dz : (he != 0) = true := by simp [hz]
          clear hz
          go_wp2
          go_ret
          exact ⟨ret_int HF.out.symm, HB3.out⟩
    · obtain rfl : k = n := by omega
      have HF : Hid (tabErr es = 0) := by show _ = _; rw [HE.out, h0.out]
      go_wp2
      go_ret
      exact ⟨ret_int HF.out.symm, hb.out⟩
end Go.Proofs.Ytkgfcekcjehkdaa
