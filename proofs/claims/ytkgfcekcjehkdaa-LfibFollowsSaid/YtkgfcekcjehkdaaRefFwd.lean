/- Forward: the reference's. -/
import Derived.Test.YtkgfcekcjehkdaaForward
import Derived.Deep.DeepCutAuto
import Derived.RegionTactic
namespace Go.Proofs.Ytkgfcekcjehkdaa
open Go.RowKit

theorem size_set (w : World) (p : Addr) (v : Value) : (w.setCell p v).heap.size = w.heap.size := by simp [World.setCell]
/-- what 'entry' returns -/
def GivesHops (B : Nat) (o : Option (List HV)) (w : World) (e : Ending) (w' : World) : Prop :=
  ∃ A n c b, e = .returned (.tuple #[.slice A n c, .bool b]) ∧ (match o with | some hs => b = true ∧ Hops w' B A n c hs | none => b = false) ∧ Below w.heap.size w w'
set_option maxHeartbeats 1000000 in
theorem entry_any (T : Option Addr) (tn tc B : Nat) (es : List EV) (x : Int) (w : World) (ht : Tab w B T tn tc es) (hB : B ≤ w.heap.size) (htn : tn ≤ 140737488355328) :
    Calls Try.prog 26 #[.slice T tn tc, .int .i64 x] w (GivesHops B (look es x) w) := by
  have HT := Lib.hid ht
  have hl := Lib.hid ht.len
  clear ht
  go_enter Try.func26, Try.ntmps26
  go_wp2
  go_loopw [10] (fun i wr => ∃ k : Nat, k ≤ tn ∧ i = .int .i64 k ∧ Hid (∀ j, j < k → innAt es j ≠ x) ∧ Hid (Below w.heap.size w wr)) (fun i _ => tn - (intOf i).toNat)
  case atStart => exact ⟨0, Nat.zero_le _, rfl, fun j hj => absurd hj (by omega), Below.refl _ _⟩
  case round =>
    obtain ⟨k, hk, rfl, hno, hb⟩ := hrel
    by_cases hlt : k < tn
    · have HT2 : Hid (Tab wr B T tn tc es) := HT.out.below (hb.out.mono hB)
      obtain ⟨b, o, y, rfl, hbB, hyk, hyh, c0, c1⟩ := HT2.out.get hlt
      have hbw : b < wr.heap.size := by have := hb.out.size; omega
      have hy := inn_of hyk
      have HB2 : Hid (Below w.heap.size w (wr.alloc (.cells #[.int .i64 y.inn, .slice y.A y.n y.c] 43))) := hb.out.alloc hb.out.size _
      by_cases hyx : y.inn = x
      · have HL : Hid (look es x = some y.hs) := by
          show _ = _
          rw [look_at (i := k) (by rw [hl.out]; exact hlt) (by rw [hy]; exact hyx) hno.out]
          unfold hsAt
          rw [hyk]
          rfl
        have HH : Hid (Hops (wr.alloc (.cells #[.int .i64 y.inn, .slice y.A y.n y.c] 43)) B y.A y.n y.c y.hs) := hyh.below ((Below.refl _ _).alloc (by have := hb.out.size; omega) _)
        have d : (y.inn == x) = true := by simp [hyx]
        clear hyk hyh hy hyx
        go_wp2
        go_ret2
        rw [HL.out]
        exact ⟨_, _, _, true, rfl, ⟨rfl, HH.out⟩, HB2.out⟩
      · have HN : Hid (∀ j, j < k + 1 → innAt es j ≠ x) := by
          intro j hj
          rcases Nat.lt_or_ge j k with h | h
          · exact hno.out j h
          · obtain rfl : j = k := by omega
            rw [hy]
            exact hyx
        have d : (y.inn == x) = false := by simp [hyx]
        clear hyk hyh hy hyx
        go_wp2
        go_roundw
        case rel => exact ⟨k + 1, by omega, by go_num, HN, HB2⟩
        case measure => simp [intOf]; omega
    · obtain rfl : k = tn := by omega
      have HL : Hid (look es x = none) := look_none fun j hj => hno.out j (by rw [← hl.out]; exact hj)
      go_wp2
      go_ret2
      rw [HL.out]
      exact ⟨none, 0, 0, false, rfl, rfl, hb.out⟩

theorem look_mem : ∀ {es : List EV} {x : Int} {hs : List HV}, look es x = some hs → ∃ i, i < es.length ∧ hsAt es i = hs
  | [], _, _, h => by cases h
  | e :: es, x, hs, h => by
    rw [look] at h
    by_cases hx : e.inn = x
    · rw [if_pos hx] at h
      injection h with h
      exact ⟨0, by simp, by simpa [hsAt] using h⟩
    · rw [if_neg hx] at h
      obtain ⟨i, hi, he⟩ := look_mem h
      exact ⟨i + 1, by simpa using hi, by simpa [hsAt] using he⟩
/-- what the statement 'if h.Label != -1 ..' leaves -/
def RefHop (w : World) (src dst fl ttl : Int) (lo : List Int) (rt : Int) (N : Nat) (W : World) : Prop :=
  ∃ A m c, Bx w (.int .u32 src) (.int .u32 dst) (.int .u32 fl) (.int .i64 ttl) (.slice A m c) (.int .u32 0) (.int .u32 0) (.int .u32 0) (.int .i64 0) (.slice none 0 0) W ∧ Own W (w.heap.size + 2) 3 .i64 (.slice A m c) m lo ∧ Below w.heap.size w W ∧ W.cell? ⟨N, 0, none⟩ = some (.int .u32 rt) ∧ N < W.heap.size
set_option linter.unusedSimpArgs false
set_option maxRecDepth 100000 in
set_option maxHeartbeats 4000000 in
theorem refForward_any (T A : Option Addr) (tn tc n c : Nat) (es : List EV) (p : PD) (w : World) (ht : Tab w w.heap.size T tn tc es) (hlen : ∀ e ∈ es, e.n ≤ 140737488355328) (htn : tn ≤ 140737488355328) (hp : Ints w w.heap.size .i64 A n c p.ls) (hn : n ≤ 17592186044416)
    (hf : 0 ≤ p.flow ∧ p.flow < 4294967296) (httl : -9223372036854775808 ≤ p.ttl ∧ p.ttl ≤ 9223372036854775807) :
    Calls Try.prog 16 #[.slice T tn tc, .agg #[.int .u32 p.src, .int .u32 p.dst, .int .u32 p.flow, .int .i64 p.ttl, .slice A n c]] w (GivesP3 (fwd es p) w) := by
  obtain ⟨Z, hZ⟩ : ∃ Z, ((w.alloc (.cells #[.int .u32 p.src, .int .u32 p.dst, .int .u32 p.flow, .int .i64 p.ttl, .slice A n c] 27)).alloc (.cells #[.int .u32 0, .int .u32 0, .int .u32 0, .int .i64 0, .slice none 0 0] 27)) = Z := ⟨_, rfl⟩
  have HB0 : Hid (Below w.heap.size w Z) := by subst hZ; exact ((Below.refl _ _).alloc (Nat.le_refl _) _).alloc (by simp) _
  have HZS : Hid (w.heap.size + 2 ≤ Z.heap.size) := by subst hZ; show _ ≤ _; simp
  have HBX : Hid (∀ W, Below (w.heap.size + 2) Z W → Bx w (.int .u32 p.src) (.int .u32 p.dst) (.int .u32 p.flow) (.int .i64 p.ttl) (.slice A n c) (.int .u32 0) (.int .u32 0) (.int .u32 0) (.int .i64 0) (.slice none 0 0) W) := fun W h => by subst hZ; exact boxes h
  have HC := Lib.hid (refCheck_any T tn tc w.heap.size es Z (ht.below HB0.out) HB0.out.size htn hlen)
  have hlp := hp.len
  have HF : Hid (fwd es p = if tabErr es ≠ 0 then (zeroPD, 0, tabErr es) else if n = 0 then (zeroPD, 0, 9) else stepR es p) := by show _ = _; unfold fwd; rw [hlp]
  have HT := Lib.hid ht
  have HP := Lib.hid hp
  have HLP := Lib.hid hlp
  have HOK : Hid (tabErr es = 0 → Sorted es ∧ es.length ≤ 2000 ∧ ∀ i, i < es.length → hopsErr (hsAt es i) = 0) := sorted_of
  obtain ⟨te, hte⟩ : ∃ te, tabErr es = te := ⟨_, rfl⟩
  rw [hte] at HC HF HOK
  obtain ⟨src, dst, fl, ttl, ps⟩ := p
  dsimp only at *
  obtain ⟨hf0, hf2⟩ := hf
  have hnc := hp.1
  clear ht hlen hp hte hlp
  go_enter Try.func16, Try.ntmps16
  go_wp2_with fail
  refine HC.out.mono ?_
  rintro e w1 ⟨rfl, hb1⟩
  obtain ⟨⟨p0, p1, p2, p3, p4⟩, ⟨q0, q1, q2, q3, q4⟩, fz, fz1, hz, hz1⟩ := HBX.out w1 (hb1.mono HZS.out)
  have HB1 := Lib.hid hb1
  have HW1 : Hid (Below w.heap.size w w1) := HB0.out.trans (hb1.mono HB0.out.size)
  clear hb1 hZ
  by_cases he : te = 0
  case neg =>
    have HG : Hid (fwd es ⟨src, dst, fl, ttl, ps⟩ = (zeroPD, 0, te)) := by show _ = _; rw [HF.out, if_pos he]
    have d : (te != 0) = true := by simp [he]
    clear he
    go_wp2
    refine bodyPost_ret (v := .tuple #[.agg #[.int .u32 0, .int .u32 0, .int .u32 0, .int .i64 0, .slice none 0 0], .int .u32 0, .int .i64 te]) (by simp [results, Try.results16, go_sem, q0, q1, q2, q3, q4, hz, hz1]) rfl ?_
    rw [HG.out]
    refine ⟨_, rfl, PkOwn.zero _ _, ?_⟩
    repeat with_reducible refine Below.setCell ?_ (by simp) _
    with_reducible exact HW1.out
  subst he
  by_cases h0 : n = 0
  · subst h0
    have HG : Hid (fwd es ⟨src, dst, fl, ttl, ps⟩ = (zeroPD, 0, 9)) := by show _ = _; rw [HF.out]; simp
    go_wp2
    refine bodyPost_ret (v := .tuple #[.agg #[.int .u32 0, .int .u32 0, .int .u32 0, .int .i64 0, .slice none 0 0], .int .u32 0, .int .i64 9]) (by simp [results, Try.results16, go_sem, q0, q1, q2, q3, q4, hz, hz1]) rfl ?_
    rw [HG.out]
    refine ⟨_, rfl, PkOwn.zero _ _, ?_⟩
    repeat with_reducible refine Below.setCell ?_ (by simp) _
    with_reducible exact HW1.out
  have dn : ((n : Int) == 0) = false := by simp; omega
  obtain ⟨b, o, x, rfl, hbB, hc, hxx⟩ := (HP.out.below HW1.out).cell (j := n - 1) (by omega)
  have hbw1 : b < w1.heap.size := by have := HW1.out.size; omega
  have hws : IntKind.i64.wrap ((n : Int) - 1) = ((n - 1 : Nat) : Int) := by rw [IntWalk.i64_in _ (by omega)]; omega
  have hn1 : ((n : Int) - 1) = ((n - 1 : Nat) : Int) := by omega
  have HSR : Hid (fwd es ⟨src, dst, fl, ttl, ps⟩ = match look es x with | none => (zeroPD, 0, 6) | some hs => if hs.length = 0 then (⟨src, dst, fl, ttl, ps.dropLast⟩, 0, 0) else if ttl ≤ 1 then (zeroPD, 0, 23) else (hopOut ⟨src, dst, fl, ttl, ps⟩ ((hs[fl.toNat % hs.length]?).getD ⟨0, 0⟩), ((hs[fl.toNat % hs.length]?).getD ⟨0, 0⟩).router, 0)) := by
    show _ = _
    rw [HF.out, if_neg (by simp), if_neg h0]
    unfold stepR
    simp only [HLP.out, hxx.out]
    rfl
  clear hxx
  go_wp2_with fail
  refine (entry_any T tn tc w.heap.size es x w1 (HT.out.below HW1.out) HW1.out.size htn).mono ?_
  rintro e w3 ⟨A3, n3, c3, bb, rfl, hbb, hb3⟩
  clear p0 p1 p2 p3 p4 q0 q1 q2 q3 q4 fz fz1 hz hz1 hc
  have HB3 : Hid (Below Z.heap.size Z w3) := HB1.out.trans (hb3.mono HB1.out.size)
  have HW3 : Hid (Below w.heap.size w w3) := HW1.out.trans (hb3.mono HW1.out.size)
  obtain ⟨⟨p0, p1, p2, p3, p4⟩, ⟨q0, q1, q2, q3, q4⟩, fz, fz1, hz, hz1⟩ := HBX.out w3 (HB3.out.mono HZS.out)
  clear hb3
  cases hlk : look es x with
  | none =>
    rw [hlk] at hbb HSR
    subst hbb
    clear hlk
    go_wp2
    refine bodyPost_ret (v := .tuple #[.agg #[.int .u32 0, .int .u32 0, .int .u32 0, .int .i64 0, .slice none 0 0], .int .u32 0, .int .i64 6]) (by simp [results, Try.results16, go_sem, q0, q1, q2, q3, q4, hz, hz1]) rfl ?_
    rw [HSR.out]
    refine ⟨_, rfl, PkOwn.zero _ _, ?_⟩
    repeat with_reducible refine Below.setCell ?_ (by simp) _
    with_reducible exact HW3.out
  | some hs =>
    rw [hlk] at hbb HSR
    obtain ⟨rfl, hh3⟩ := hbb
    have hhl := hh3.len
    obtain ⟨i0, hi0, hie⟩ := look_mem hlk
    have hn364 : (n3 : Int) ≤ 64 := by
      have := (hop_of ((HOK.out trivial).2.2 i0 hi0)).1
      rw [hie, hhl] at this
      omega
    have HH3 := Lib.hid hh3
    have HHL := Lib.hid hhl
    clear hlk hh3 hhl hi0 hie
    go_wp2_with fail
    refine (copyInts_any (some ⟨b, o, none⟩) none (n - 1) c 0 0 (ps.take (n - 1)) [] w3 (((HP.out.prefix (by omega)).below HW3.out).more HW3.out.size) (Ints.nil _ _ _) (by omega)).mono ?_
    rintro e w5 ⟨A5, c5, rfl, ho5, hb5⟩
    rw [Nat.add_zero, List.append_nil] at ho5
    have HDL : Hid (ps.take (n - 1) = ps.dropLast) := by show _ = _; rw [← HLP.out, dropLast_take]
    rw [HDL.out] at ho5
    clear p0 p1 p2 p3 p4 q0 q1 q2 q3 q4 fz fz1 hz hz1
    have HB5 : Hid (Below Z.heap.size Z w5) := HB3.out.trans (hb5.mono HB3.out.size)
    have HW5 : Hid (Below w.heap.size w w5) := HW3.out.trans (hb5.mono HW3.out.size)
    have HH5 : Hid (Hops w5 w.heap.size A3 n3 c3 hs) := HH3.out.below (hb5.mono HW3.out.size)
    have HO5 : Hid (Own w5 (w.heap.size + 2) 3 .i64 (.slice A5 (n - 1) c5) (n - 1) ps.dropLast) := own_low ho5 (Nat.le_trans HZS.out HB3.out.size)
    obtain ⟨⟨p0, p1, p2, p3, p4⟩, ⟨q0, q1, q2, q3, q4⟩, fz, fz1, hz, hz1⟩ := HBX.out w5 (HB5.out.mono HZS.out)
    clear ho5 hb5 HH3 HB3 HW3
    by_cases hy0 : n3 = 0
    · subst hy0
      have HF2 : Hid (fwd es ⟨src, dst, fl, ttl, ps⟩ = (⟨src, dst, fl, ttl, ps.dropLast⟩, 0, 0)) := by
        show _ = _
        rw [HSR.out]
        simp [HHL.out]
      go_wp2
      refine bodyPost_ret (v := .tuple #[.agg #[.int .u32 src, .int .u32 dst, .int .u32 fl, .int .i64 ttl, .slice A5 (n - 1) c5], .int .u32 0, .int .i64 0]) (by simp [results, Try.results16, go_sem, q0, q1, q2, q3, q4, hz, hz1]) rfl ?_
      rw [HF2.out]
      refine ⟨_, rfl, ⟨A5, n - 1, c5, rfl, own_low (b := w.heap.size + 2) ?_ (by omega)⟩, ?_⟩
      · repeat (first | with_reducible refine Own.setBelow ?_ (by show _ < w.heap.size + 2; simp) _ | with_reducible refine own_drew ?_)
        with_reducible exact HO5.out
      · repeat (first | with_reducible refine Below.setCell ?_ (by simp) _ | with_reducible refine Below.drew ?_)
        with_reducible exact HW5.out
    have dy : ((n3 : Int) == 0) = false := by simp; omega
    by_cases ht1 : ttl ≤ 1
    · have HF2 : Hid (fwd es ⟨src, dst, fl, ttl, ps⟩ = (zeroPD, 0, 23)) := by
        show _ = _
        rw [HSR.out]
        simp [HHL.out, hy0, ht1]
      go_wp2
      refine bodyPost_ret (v := .tuple #[.agg #[.int .u32 0, .int .u32 0, .int .u32 0, .int .i64 0, .slice none 0 0], .int .u32 0, .int .i64 23]) (by simp [results, Try.results16, go_sem, q0, q1, q2, q3, q4, hz, hz1]) rfl ?_
      rw [HF2.out]
      refine ⟨_, rfl, PkOwn.zero _ _, ?_⟩
      repeat (first | with_reducible refine Below.setCell ?_ (by simp) _ | with_reducible refine Below.drew ?_)
      with_reducible exact HW5.out
    have hy1 : (1 : Int) ≤ (n3 : Int) := by omega
    obtain ⟨q, hq⟩ : ∃ q, fl.toNat % n3 = q := ⟨_, rfl⟩
    have hqi : fl % (n3 : Int) = (q : Int) := by
      rw [← hq]
      have h1 : (fl.toNat : Int) = fl := Int.toNat_of_nonneg hf0
      rw [Int.natCast_emod, h1]
    have hqn : q < n3 := by rw [← hq]; exact Nat.mod_lt _ (by omega)
    obtain ⟨b6, o6, h, rfl, hb6, hhk, g0, g1⟩ := HH5.out.get hqn
    have hb6w : b6 < w5.heap.size := by omega
    have HF2 : Hid (fwd es ⟨src, dst, fl, ttl, ps⟩ = (⟨src, dst, fl, ttl - 1, if h.label = -1 then ps.dropLast else ps.dropLast ++ [h.label]⟩, h.router, 0)) := by
      show _ = _
      rw [HSR.out]
      simp only [HHL.out, hq, hhk]
      rw [if_neg hy0, if_neg ht1]
      rfl
    have HQ := Lib.hid hq
    clear hhk hq
    obtain ⟨lo, hlo⟩ : ∃ lo, (if h.label = -1 then ps.dropLast else ps.dropLast ++ [h.label]) = lo := ⟨_, rfl⟩
    rw [hlo] at HF2
    have HLO := Lib.hid hlo
    clear hlo
    go_upto_if 70 with fail
    go_cut [] (fun wx => RefHop w src dst fl (ttl - 1) lo h.router w5.heap.size wx)
    case first =>
      by_cases hl1 : h.label = -1
      · have dl : (h.label != -1) = false := by simp [hl1]
        have hlo := HLO.out
        rw [if_pos hl1] at hlo
        subst hlo
        clear hl1
        go_wp2_with fail
        go_meet
        refine ⟨A5, n - 1, c5, ⟨⟨by go_simp, by go_simp, by go_simp, by go_simp, by go_simp⟩, ⟨by go_simp, by go_simp, by go_simp, by go_simp, by go_simp⟩, (fun o => by go_simp), (fun o => by go_simp), by simp; omega, by simp; omega⟩, ?_, ?_, by go_simp, by simp⟩
        · refine Own.alloc ?_ _
          repeat with_reducible refine Own.setBelow ?_ (by show _ < w.heap.size + 2; simp) _
          with_reducible exact HO5.out
        · refine Below.alloc ?_ (by simp; omega) _
          repeat with_reducible refine Below.setCell ?_ (by simp) _
          with_reducible exact HW5.out
      · have dl : (h.label != -1) = true := by simp [hl1]
        have hlo := HLO.out
        rw [if_neg hl1] at hlo
        subst hlo
        clear hl1
        have HL5 : Hid (∀ k, (Value.slice A5 (n - 1) c5).ownBlock = some k → w.heap.size + 2 ≤ k ∧ k < w5.heap.size) := fun k hk => World.ownsRow.lt HO5.out k hk
        go_wp2_with (at_builtin; refine wpList_append_int (B := w.heap.size) (w0 := w) (base := w.heap.size + 2) (l := n - 1) (ys := ps.dropLast) (k := .i64) rfl _ _ rfl rfl rfl (by simp [size_set]) Try.underlying25 ints_info rfl ?c1 ?c2 (by omega) (by simp [size_set]; omega) (by omega) (by simp only [maxLen]; omega) ?c3; (case c1 => (refine Own.alloc ?_ _; (repeat with_reducible refine Own.setBelow ?_ (by show _ < w.heap.size + 2; simp) _); exact HO5.out)); (case c2 => (refine Below.alloc ?_ (by simp [size_set]; omega) _; (repeat with_reducible refine Below.setCell ?_ (by simp) _); with_reducible exact HW5.out)); intro v6 w6 h1 h2 hg6 hor6; have hz6 : w5.heap.size + 2 ≤ w6.heap.size := (by have := hg6.size; simp [size_set] at this; omega); have kc : ∀ o, w6.cell? ⟨w.heap.size, o, none⟩ = _ := fun o => World.cell?_of_block (hg6.block _ (by show w.heap.size < _; (try simp [size_set]) <;> omega) (fun e => absurd (HL5.out _ e.symm).1 (by show ¬ (w.heap.size + 2 ≤ w.heap.size); omega))); have kc1 : ∀ o, w6.cell? ⟨w.heap.size + 1, o, none⟩ = _ := fun o => World.cell?_of_block (hg6.block _ (by show w.heap.size + 1 < _; (try simp [size_set]) <;> omega) (fun e => absurd (HL5.out _ e.symm).1 (by show ¬ (w.heap.size + 2 ≤ w.heap.size + 1); omega))); have kf : ∀ o, w6.frozen? ⟨w.heap.size, o, none⟩ = _ := fun o => World.frozen?_of_block (hg6.block _ (by show w.heap.size < _; (try simp [size_set]) <;> omega) (fun e => absurd (HL5.out _ e.symm).1 (by show ¬ (w.heap.size + 2 ≤ w.heap.size); omega))); have kf1 : ∀ o, w6.frozen? ⟨w.heap.size + 1, o, none⟩ = _ := fun o => World.frozen?_of_block (hg6.block _ (by show w.heap.size + 1 < _; (try simp [size_set]) <;> omega) (fun e => absurd (HL5.out _ e.symm).1 (by show ¬ (w.heap.size + 2 ≤ w.heap.size + 1); omega))); have kh : w6.cell? ⟨w5.heap.size, 0, none⟩ = some (.int .u32 h.router) := (World.cell?_of_block (hg6.block _ (by show w5.heap.size < _; (try simp [size_set]) <;> omega) (fun e => absurd (HL5.out _ e.symm).2 (Nat.lt_irrefl _)))).trans (by go_simp); have H1 := Lib.hid h1; have H2 := Lib.hid h2; have e0 := (kc 0).trans (show _ = some (.int .u32 src) by go_simp); have e1 := (kc 1).trans (show _ = some (.int .u32 dst) by go_simp); have e2 := (kc 2).trans (show _ = some (.int .u32 fl) by go_simp); have e3 := (kc 3).trans (show _ = some (.int .i64 (ttl - 1)) by go_simp); have e4 := (kc 4).trans (show _ = some (.slice A5 (n - 1) c5) by go_simp); have d0 := (kc1 0).trans (show _ = some (.int .u32 0) by go_simp); have d1 := (kc1 1).trans (show _ = some (.int .u32 0) by go_simp); have d2 := (kc1 2).trans (show _ = some (.int .u32 0) by go_simp); have d3 := (kc1 3).trans (show _ = some (.int .i64 0) by go_simp); have d4 := (kc1 4).trans (show _ = some (.slice none 0 0) by go_simp); have f0 : ∀ o, w6.frozen? ⟨w.heap.size, o, none⟩ = false := fun o => (kf o).trans (by go_simp); have f1 : ∀ o, w6.frozen? ⟨w.heap.size + 1, o, none⟩ = false := fun o => (kf1 o).trans (by go_simp); obtain ⟨A6, c6, rfl⟩ := own_form h1; clear kc kc1 kf kf1 h1 h2 hg6 hor6)
        go_meet
        have k0 : w.heap.size < w6.heap.size := by omega
        have k1 : w.heap.size + 1 < w6.heap.size := by omega
        refine ⟨A6, n - 1 + 1, c6, ⟨⟨by go_simp, by go_simp, by go_simp, by go_simp, by go_simp⟩, ⟨by go_simp, by go_simp, by go_simp, by go_simp, by go_simp⟩, (fun o => by go_simp), (fun o => by go_simp), by simp; omega, by simp; omega⟩, ?_, ?_, ?_, by simp; omega⟩
        · repeat with_reducible refine Own.setBelow ?_ (by show _ < w.heap.size + 2; simp) _
          with_reducible exact H1.out
        · repeat with_reducible refine Below.setCell ?_ (by simp) _
          with_reducible exact H2.out
        · have : w5.heap.size ≠ w.heap.size := by omega
          go_simp
    case rest =>
      clear p0 p1 p2 p3 p4 q0 q1 q2 q3 q4 fz fz1 hz hz1 g0 g1
      obtain ⟨A6, m6, c6, ⟨⟨p0, p1, p2, p3, p4⟩, ⟨q0, q1, q2, q3, q4⟩, fz, fz1, hz, hz1⟩, ho6, hb6', e0, hz5⟩ := hcut
      have HO6 := Lib.hid ho6
      have HB6 := Lib.hid hb6'
      have hne : w5.heap.size ≠ w.heap.size := by have := HB5.out.size; have := HZS.out; omega
      have hne1 : w5.heap.size ≠ w.heap.size + 1 := by have := HB5.out.size; have := HZS.out; omega
      clear ho6 hb6'
      go_wp2
      go_region
      go_wp2
      refine bodyPost_ret (v := .tuple #[.agg #[.int .u32 src, .int .u32 dst, .int .u32 fl, .int .i64 (ttl - 1), .slice A6 m6 c6], .int .u32 h.router, .int .i64 0]) (by simp [results, Try.results16, go_sem, q0, q1, q2, q3, q4, hz, hz1]) rfl ?_
      rw [HF2.out]
      refine ⟨_, rfl, ⟨A6, m6, c6, rfl, own_low (b := w.heap.size + 2) ?_ (by omega)⟩, ?_⟩
      · repeat (first | with_reducible refine Own.setBelow ?_ (by show _ < w.heap.size + 2; simp) _ | with_reducible refine own_drew ?_)
        with_reducible exact HO6.out
      · repeat (first | with_reducible refine Below.setCell ?_ (by simp) _ | with_reducible refine Below.drew ?_)
        with_reducible exact HB6.out
end Go.Proofs.Ytkgfcekcjehkdaa
