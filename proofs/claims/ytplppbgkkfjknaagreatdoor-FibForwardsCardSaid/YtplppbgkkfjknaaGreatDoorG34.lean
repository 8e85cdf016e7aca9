/- Forward: the reference's. The document's way of a packet without labels: the walk (printed by gen_rpl.py from RPl.base). -/
import Derived.Test.YtplppbgkkfjknaaGreatDoorG10
import Derived.Deep.DeepCutAuto
import Derived.RegionTactic
import Derived.Test.YtplppbgkkfjknaaGreatDoorG33
import Derived.Test.YtplppbgkkfjknaaGreatDoorG32
import Derived.Test.YtplppbgkkfjknaaGreatDoorG31
import Derived.Test.YtplppbgkkfjknaaGreatDoorG22
namespace Go.Proofs.YtplppbgkkfjknaaGreatDoor
open Go.RowKit
set_option maxRecDepth 100000

theorem size_set (w : World) (p : Addr) (v : Value) : (w.setCell p v).heap.size = w.heap.size := by simp [World.setCell]
/-- what 'entry' returns -/
def GivesHops (B : Nat) (o : Option (List HV)) (w : World) (e : Ending) (w' : World) : Prop :=
  ∃ A n c b, e = .returned (.tuple #[.slice A n c, .bool b]) ∧ (match o with | some hs => b = true ∧ Hops w' B A n c hs | none => b = false) ∧ Below w.heap.size w w'
set_option maxHeartbeats 1000000 in
theorem entry_any (T : Option Addr) (tn tc B : Nat) (es : List EV) (x : Int) (w : World) (ht : Tab w B T tn tc es) (hB : B ≤ w.heap.size) (htn : tn ≤ 140737488355328) :
    Calls Tryz.prog 78 #[.slice T tn tc, .int .i64 x] w (GivesHops B (look es x) w) := by
  have HT := Lib.hid ht
  have hl := Lib.hid ht.len
  clear ht
  go_enter Tryz.func78, Tryz.ntmps78
  go_wp2
  go_loopw [10] (fun i wr => ∃ k : Nat, k ≤ tn ∧ i = .int .i64 k ∧ Hid (∀ j, j < k → innAt es j ≠ x) ∧ Hid (Below w.heap.size w wr)) (fun i _ => tn - (intOf i).toNat)
  case atStart => exact ⟨0, Nat.zero_le _, rfl, fun j hj => absurd hj (by omega), Below.refl _ _⟩
  case round =>
    obtain ⟨k, hk, rfl, hno, hb⟩ := hrel
    by_cases hlt : k < tn
    · have HT2 : Hid (Tab wr B T tn tc es) := HT.out.below (hb.out.mono hB)
      obtain ⟨b, o, y, rfl, hbB, hyk, hyh, c0, c1⟩ := HT2.out.get hlt
      have hbw : b < wr.heap.size := by have := hb.out.size; omega
      have hy := inn_of hyk
      have HB2 : Hid (Below w.heap.size w (wr.alloc (.cells #[.int .i64 y.inn, .slice y.A y.n y.c] 84))) := hb.out.alloc hb.out.size _
      by_cases hyx : y.inn = x
      · have HL : Hid (look es x = some y.hs) := by
          show _ = _
          rw [look_at (i := k) (by rw [hl.out]; exact hlt) (by rw [hy]; exact hyx) hno.out]
          unfold hsAt
          rw [hyk]
          rfl
        have HH : Hid (Hops (wr.alloc (.cells #[.int .i64 y.inn, .slice y.A y.n y.c] 84)) B y.A y.n y.c y.hs) := hyh.below ((Below.refl _ _).alloc (by have := hb.out.size; omega) _)
        have d : (y.inn == x) = true := by simp [hyx]
        clear hyk hyh hy hyx
        go_wp2
        go_ret2
        rw [HL.out]
        exact ⟨_, _, _, true, rfl, ⟨rfl, HH.out⟩, HB2.out⟩
      · have HN : Hid (∀ j, j < k + 1 → innAt es j ≠ x) := by
          intro j hj
          rcases Nat.lt_or_ge j k with h | h
          · exact hno.out j h
          · obtain rfl : j = k := by omega
            rw [hy]
            exact hyx
        have d : (y.inn == x) = false := by simp [hyx]
        clear hyk hyh hy hyx
        go_wp2
        go_roundw
        case rel => exact ⟨k + 1, by omega, by go_num, HN, HB2⟩
        case measure => simp [intOf]; omega
    · obtain rfl : k = tn := by omega
      have HL : Hid (look es x = none) := look_none fun j hj => hno.out j (by rw [← hl.out]; exact hj)
      go_wp2
      go_ret2
      rw [HL.out]
      exact ⟨none, 0, 0, false, rfl, rfl, hb.out⟩

theorem look_memL : ∀ {es : List EV} {x : Int} {hs : List HV}, look es x = some hs → ∃ i, i < es.length ∧ hsAt es i = hs
  | [], _, _, h => by cases h
  | e :: es, x, hs, h => by
    rw [look] at h
    by_cases hx : e.inn = x
    · rw [if_pos hx] at h
      injection h with h
      exact ⟨0, by simp, by simpa [hsAt] using h⟩
    · rw [if_neg hx] at h
      obtain ⟨i, hi, he⟩ := look_memL h
      exact ⟨i + 1, by simpa using hi, by simpa [hsAt] using he⟩
/-- what the statement 'if h.Label != -1 ..' leaves -/
def RefHop (w : World) (src dst fl ttl : Int) (lo : List Int) (rt : Int) (N : Nat) (W : World) : Prop :=
  ∃ A m c, Bx w (.int .u32 src) (.int .u32 dst) (.int .u32 fl) (.int .i64 ttl) (.slice A m c) (.int .u32 0) (.int .u32 0) (.int .u32 0) (.int .i64 0) (.slice none 0 0) W ∧ Own W (w.heap.size + 2) 3 .i64 (.slice A m c) m lo ∧ Below w.heap.size w W ∧ W.cell? ⟨N, 0, none⟩ = some (.int .u32 rt) ∧ N < W.heap.size
set_option linter.unusedSimpArgs false
set_option maxRecDepth 100000 in
set_option maxHeartbeats 4000000 in
theorem refForward_any (T A : Option Addr) (tn tc n c : Nat) (es : List EV) (p : PD) (w : World) (ht : Tab w w.heap.size T tn tc es) (hlen : ∀ e ∈ es, e.n ≤ 140737488355328) (htn : tn ≤ 140737488355328) (hp : Ints w w.heap.size .i64 A n c p.ls) (hn : n ≤ 17592186044416)
    (hf : 0 ≤ p.flow ∧ p.flow < 4294967296) (httl : -9223372036854775808 ≤ p.ttl ∧ p.ttl ≤ 9223372036854775807) :
    Calls Tryz.prog 40 #[.slice T tn tc, .agg #[.int .u32 p.src, .int .u32 p.dst, .int .u32 p.flow, .int .i64 p.ttl, .slice A n c]] w (GivesP3 (fwd es p) w) := by
  obtain ⟨Z, hZ⟩ : ∃ Z, ((w.alloc (.cells #[.int .u32 p.src, .int .u32 p.dst, .int .u32 p.flow, .int .i64 p.ttl, .slice A n c] 54)).alloc (.cells #[.int .u32 0, .int .u32 0, .int .u32 0, .int .i64 0, .slice none 0 0] 54)) = Z := ⟨_, rfl⟩
  have HB0 : Hid (Below w.heap.size w Z) := by subst hZ; exact ((Below.refl _ _).alloc (Nat.le_refl _) _).alloc (by simp) _
  have HZS : Hid (w.heap.size + 2 ≤ Z.heap.size) := by subst hZ; show _ ≤ _; simp
  have HBX : Hid (∀ W, Below (w.heap.size + 2) Z W → Bx w (.int .u32 p.src) (.int .u32 p.dst) (.int .u32 p.flow) (.int .i64 p.ttl) (.slice A n c) (.int .u32 0) (.int .u32 0) (.int .u32 0) (.int .i64 0) (.slice none 0 0) W) := fun W h => by subst hZ; exact boxes h
  have HC := Lib.hid (refCheck_anyL T tn tc w.heap.size es Z (ht.below HB0.out) HB0.out.size htn hlen)
  have hlp := hp.len
  have HF : Hid (fwd es p = if tabErr es ≠ 0 then (zeroPD, 0, tabErr es) else if n = 0 then (zeroPD, 0, 9) else stepR es p) := by show _ = _; unfold fwd; rw [hlp]
  have HT := Lib.hid ht
  have HP := Lib.hid hp
  have HLP := Lib.hid hlp
  have HOK : Hid (tabErr es = 0 → Sorted es ∧ es.length ≤ 2000 ∧ ∀ i, i < es.length → hopsErr (hsAt es i) = 0) := sorted_of
  obtain ⟨te, hte⟩ : ∃ te, tabErr es = te := ⟨_, rfl⟩
  rw [hte] at HC HF HOK
  obtain ⟨src, dst, fl, ttl, ps⟩ := p
  dsimp only at *
  obtain ⟨hf0, hf2⟩ := hf
  have hnc := hp.1
  clear ht hlen hp hte hlp
  go_enter Tryz.func40, Tryz.ntmps40
  go_wp2_with fail
  refine HC.out.mono ?_
  rintro e w1 ⟨rfl, hb1⟩
  obtain ⟨⟨p0, p1, p2, p3, p4⟩, ⟨q0, q1, q2, q3, q4⟩, fz, fz1, hz, hz1⟩ := HBX.out w1 (hb1.mono HZS.out)
  have HB1 := Lib.hid hb1
  have HW1 : Hid (Below w.heap.size w w1) := HB0.out.trans (hb1.mono HB0.out.size)
  clear hb1 hZ
  by_cases he : te = 0
  case neg =>
    have HG : Hid (fwd es ⟨src, dst, fl, ttl, ps⟩ = (zeroPD, 0, te)) := by show _ = _; rw [HF.out, if_pos he]
    have d : (te != 0) = true := by simp [he]
    clear he
    go_wp2
    refine bodyPost_ret (v := .tuple #[.agg #[.int .u32 0, .int .u32 0, .int .u32 0, .int .i64 0, .slice none 0 0], .int .u32 0, .int .i64 te]) (by simp [results, Tryz.results40, go_sem, q0, q1, q2, q3, q4, hz, hz1]) rfl ?_
    rw [HG.out]
    refine ⟨_, rfl, PkOwn.zero _ _, ?_⟩
    repeat with_reducible refine Below.setCell ?_ (by simp) _
    with_reducible exact HW1.out
  subst he
  by_cases h0 : n = 0
  · subst h0
    have HG : Hid (fwd es ⟨src, dst, fl, ttl, ps⟩ = (zeroPD, 0, 9)) := by show _ = _; rw [HF.out]; simp
    go_wp2
    refine bodyPost_ret (v := .tuple #[.agg #[.int .u32 0, .int .u32 0, .int .u32 0, .int .i64 0, .slice none 0 0], .int .u32 0, .int .i64 9]) (by simp [results, Tryz.results40, go_sem, q0, q1, q2, q3, q4, hz, hz1]) rfl ?_
    rw [HG.out]
    refine ⟨_, rfl, PkOwn.zero _ _, ?_⟩
    repeat with_reducible refine Below.setCell ?_ (by simp) _
    with_reducible exact HW1.out
  have dn : ((n : Int) == 0) = false := by simp; omega
  obtain ⟨b, o, x, rfl, hbB, hc, hxx⟩ := (HP.out.below HW1.out).cell (j := n - 1) (by omega)
  have hbw1 : b < w1.heap.size := by have := HW1.out.size; omega
  have hws : IntKind.i64.wrap ((n : Int) - 1) = ((n - 1 : Nat) : Int) := by rw [IntWalk.i64_in _ (by omega)]; omega
  have hn1 : ((n : Int) - 1) = ((n - 1 : Nat) : Int) := by omega
  have HSR : Hid (fwd es ⟨src, dst, fl, ttl, ps⟩ = match look es x with | none => (zeroPD, 0, 6) | some hs => if hs.length = 0 then (⟨src, dst, fl, ttl, ps.dropLast⟩, 0, 0) else if ttl ≤ 1 then (zeroPD, 0, 23) else (hopOut ⟨src, dst, fl, ttl, ps⟩ ((hs[fl.toNat % hs.length]?).getD ⟨0, 0⟩), ((hs[fl.toNat % hs.length]?).getD ⟨0, 0⟩).router, 0)) := by
    show _ = _
    rw [HF.out, if_neg (by simp), if_neg h0]
    unfold stepR
    simp only [HLP.out, hxx.out]
    rfl
  clear hxx
  go_wp2_with fail
  refine (entry_any T tn tc w.heap.size es x w1 (HT.out.below HW1.out) HW1.out.size htn).mono ?_
  rintro e w3 ⟨A3, n3, c3, bb, rfl, hbb, hb3⟩
  clear p0 p1 p2 p3 p4 q0 q1 q2 q3 q4 fz fz1 hz hz1 hc
  have HB3 : Hid (Below Z.heap.size Z w3) := HB1.out.trans (hb3.mono HB1.out.size)
  have HW3 : Hid (Below w.heap.size w w3) := HW1.out.trans (hb3.mono HW1.out.size)
  obtain ⟨⟨p0, p1, p2, p3, p4⟩, ⟨q0, q1, q2, q3, q4⟩, fz, fz1, hz, hz1⟩ := HBX.out w3 (HB3.out.mono HZS.out)
  clear hb3
  cases hlk : look es x with
  | none =>
    rw [hlk] at hbb HSR
    subst hbb
    clear hlk
    go_wp2
    refine bodyPost_ret (v := .tuple #[.agg #[.int .u32 0, .int .u32 0, .int .u32 0, .int .i64 0, .slice none 0 0], .int .u32 0, .int .i64 6]) (by simp [results, Tryz.results40, go_sem, q0, q1, q2, q3, q4, hz, hz1]) rfl ?_
    rw [HSR.out]
    refine ⟨_, rfl, PkOwn.zero _ _, ?_⟩
    repeat with_reducible refine Below.setCell ?_ (by simp) _
    with_reducible exact HW3.out
  | some hs =>
    rw [hlk] at hbb HSR
    obtain ⟨rfl, hh3⟩ := hbb
    have hhl := hh3.len
    obtain ⟨i0, hi0, hie⟩ := look_memL hlk
    have hn364 : (n3 : Int) ≤ 64 := by
      have := (hop_of ((HOK.out trivial).2.2 i0 hi0)).1
      rw [hie, hhl] at this
      omega
    have HH3 := Lib.hid hh3
    have HHL := Lib.hid hhl
    clear hlk hh3 hhl hi0 hie
    go_wp2_with fail
    refine (copyInts_any (some ⟨b, o, none⟩) none (n - 1) c 0 0 (ps.take (n - 1)) [] w3 (((HP.out.prefix (by omega)).below HW3.out).more HW3.out.size) (Ints.nil _ _ _) (by omega)).mono ?_
    rintro e w5 ⟨A5, c5, rfl, ho5, hb5⟩
    rw [Nat.add_zero, List.append_nil] at ho5
    have HDL : Hid (ps.take (n - 1) = ps.dropLast) := by show _ = _; rw [← HLP.out, dropLast_take]
    rw [HDL.out] at ho5
    clear p0 p1 p2 p3 p4 q0 q1 q2 q3 q4 fz fz1 hz hz1
    have HB5 : Hid (Below Z.heap.size Z w5) := HB3.out.trans (hb5.mono HB3.out.size)
    have HW5 : Hid (Below w.heap.size w w5) := HW3.out.trans (hb5.mono HW3.out.size)
    have HH5 : Hid (Hops w5 w.heap.size A3 n3 c3 hs) := HH3.out.below (hb5.mono HW3.out.size)
    have HO5 : Hid (Own w5 (w.heap.size + 2) 3 .i64 (.slice A5 (n - 1) c5) (n - 1) ps.dropLast) := own_low ho5 (Nat.le_trans HZS.out HB3.out.size)
    obtain ⟨⟨p0, p1, p2, p3, p4⟩, ⟨q0, q1, q2, q3, q4⟩, fz, fz1, hz, hz1⟩ := HBX.out w5 (HB5.out.mono HZS.out)
    clear ho5 hb5 HH3 HB3 HW3
    by_cases hy0 : n3 = 0
    · subst hy0
      have HF2 : Hid (fwd es ⟨src, dst, fl, ttl, ps⟩ = (⟨src, dst, fl, ttl, ps.dropLast⟩, 0, 0)) := by
        show _ = _
        rw [HSR.out]
        simp [HHL.out]
      go_wp2
      refine bodyPost_ret (v := .tuple #[.agg #[.int .u32 src, .int .u32 dst, .int .u32 fl, .int .i64 ttl, .slice A5 (n - 1) c5], .int .u32 0, .int .i64 0]) (by simp [results, Tryz.results40, go_sem, q0, q1, q2, q3, q4, hz, hz1]) rfl ?_
      rw [HF2.out]
      refine ⟨_, rfl, ⟨A5, n - 1, c5, rfl, own_low (b := w.heap.size + 2) ?_ (by omega)⟩, ?_⟩
      · repeat (first | with_reducible refine Own.setBelow ?_ (by show _ < w.heap.size + 2; simp) _ | with_reducible refine own_drew ?_)
        with_reducible exact HO5.out
      · repeat (first | with_reducible refine Below.setCell ?_ (by simp) _ | with_reducible refine Below.drew ?_)
        with_reducible exact HW5.out
    have dy : ((n3 : Int) == 0) = false := by simp; omega
    by_cases ht1 : ttl ≤ 1
    · have HF2 : Hid (fwd es ⟨src, dst, fl, ttl, ps⟩ = (zeroPD, 0, 23)) := by
        show _ = _
        rw [HSR.out]
        simp [HHL.out, hy0, ht1]
      go_wp2
      refine bodyPost_ret (v := .tuple #[.agg #[.int .u32 0, .int .u32 0, .int .u32 0, .int .i64 0, .slice none 0 0], .int .u32 0, .int .i64 23]) (by simp [results, Tryz.results40, go_sem, q0, q1, q2, q3, q4, hz, hz1]) rfl ?_
      rw [HF2.out]
      refine ⟨_, rfl, PkOwn.zero _ _, ?_⟩
      repeat (first | with_reducible refine Below.setCell ?_ (by simp) _ | with_reducible refine Below.drew ?_)
      with_reducible exact HW5.out
    have hy1 : (1 : Int) ≤ (n3 : Int) := by omega
    obtain ⟨q, hq⟩ : ∃ q, fl.toNat % n3 = q := ⟨_, rfl⟩
    have hqi : fl % (n3 : Int) = (q : Int) := by
      rw [← hq]
      have h1 : (fl.toNat : Int) = fl := Int.toNat_of_nonneg hf0
      rw [Int.natCast_emod, h1]
    have hqn : q < n3 := by rw [← hq]; exact Nat.mod_lt _ (by omega)
    obtain ⟨b6, o6, h, rfl, hb6, hhk, g0, g1⟩ := HH5.out.get hqn
    have hb6w : b6 < w5.heap.size := by omega
    have HF2 : Hid (fwd es ⟨src, dst, fl, ttl, ps⟩ = (⟨src, dst, fl, ttl - 1, if h.label = -1 then ps.dropLast else ps.dropLast ++ [h.label]⟩, h.router, 0)) := by
      show _ = _
      rw [HSR.out]
      simp only [HHL.out, hq, hhk]
      rw [if_neg hy0, if_neg ht1]
      rfl
    have HQ := Lib.hid hq
    clear hhk hq
    obtain ⟨lo, hlo⟩ : ∃ lo, (if h.label = -1 then ps.dropLast else ps.dropLast ++ [h.label]) = lo := ⟨_, rfl⟩
    rw [hlo] at HF2
    have HLO := Lib.hid hlo
    clear hlo
    go_upto_if 70 with fail
    go_cut [] (fun wx => RefHop w src dst fl (ttl - 1) lo h.router w5.heap.size wx)
    case first =>
      by_cases hl1 : h.label = -1
      · have dl : (h.label != -1) = false := by simp [hl1]
        have hlo := HLO.out
        rw [if_pos hl1] at hlo
        subst hlo
        clear hl1
        go_wp2_with fail
        go_meet
        refine ⟨A5, n - 1, c5, ⟨⟨by go_simp, by go_simp, by go_simp, by go_simp, by go_simp⟩, ⟨by go_simp, by go_simp, by go_simp, by go_simp, by go_simp⟩, (fun o => by go_simp), (fun o => by go_simp), by simp; omega, by simp; omega⟩, ?_, ?_, by go_simp, by simp⟩
        · refine Own.alloc ?_ _
          repeat with_reducible refine Own.setBelow ?_ (by show _ < w.heap.size + 2; simp) _
          with_reducible exact HO5.out
        · refine Below.alloc ?_ (by simp; omega) _
          repeat with_reducible refine Below.setCell ?_ (by simp) _
          with_reducible exact HW5.out
      · have dl : (h.label != -1) = true := by simp [hl1]
        have hlo := HLO.out
        rw [if_neg hl1] at hlo
        subst hlo
        clear hl1
        have HL5 : Hid (∀ k, (Value.slice A5 (n - 1) c5).ownBlock = some k → w.heap.size + 2 ≤ k ∧ k < w5.heap.size) := fun k hk => World.ownsRow.lt HO5.out k hk
        go_wp2_with (at_builtin; refine wpList_append_int (B := w.heap.size) (w0 := w) (base := w.heap.size + 2) (l := n - 1) (ys := ps.dropLast) (k := .i64) rfl _ _ rfl rfl rfl (by simp [size_set]) Tryz.underlying52 ints_info rfl ?c1 ?c2 (by omega) (by simp [size_set]; omega) (by omega) (by simp only [maxLen]; omega) ?c3; (case c1 => (refine Own.alloc ?_ _; (repeat with_reducible refine Own.setBelow ?_ (by show _ < w.heap.size + 2; simp) _); exact HO5.out)); (case c2 => (refine Below.alloc ?_ (by simp [size_set]; omega) _; (repeat with_reducible refine Below.setCell ?_ (by simp) _); with_reducible exact HW5.out)); intro v6 w6 h1 h2 hg6 hor6; have hz6 : w5.heap.size + 2 ≤ w6.heap.size := (by have := hg6.size; simp [size_set] at this; omega); have kc : ∀ o, w6.cell? ⟨w.heap.size, o, none⟩ = _ := fun o => World.cell?_of_block (hg6.block _ (by show w.heap.size < _; (try simp [size_set]) <;> omega) (fun e => absurd (HL5.out _ e.symm).1 (by show ¬ (w.heap.size + 2 ≤ w.heap.size); omega))); have kc1 : ∀ o, w6.cell? ⟨w.heap.size + 1, o, none⟩ = _ := fun o => World.cell?_of_block (hg6.block _ (by show w.heap.size + 1 < _; (try simp [size_set]) <;> omega) (fun e => absurd (HL5.out _ e.symm).1 (by show ¬ (w.heap.size + 2 ≤ w.heap.size + 1); omega))); have kf : ∀ o, w6.frozen? ⟨w.heap.size, o, none⟩ = _ := fun o => World.frozen?_of_block (hg6.block _ (by show w.heap.size < _; (try simp [size_set]) <;> omega) (fun e => absurd (HL5.out _ e.symm).1 (by show ¬ (w.heap.size + 2 ≤ w.heap.size); omega))); have kf1 : ∀ o, w6.frozen? ⟨w.heap.size + 1, o, none⟩ = _ := fun o => World.frozen?_of_block (hg6.block _ (by show w.heap.size + 1 < _; (try simp [size_set]) <;> omega) (fun e => absurd (HL5.out _ e.symm).1 (by show ¬ (w.heap.size + 2 ≤ w.heap.size + 1); omega))); have kh : w6.cell? ⟨w5.heap.size, 0, none⟩ = some (.int .u32 h.router) := (World.cell?_of_block (hg6.block _ (by show w5.heap.size < _; (try simp [size_set]) <;> omega) (fun e => absurd (HL5.out _ e.symm).2 (Nat.lt_irrefl _)))).trans (by go_simp); have H1 := Lib.hid h1; have H2 := Lib.hid h2; have e0 := (kc 0).trans (show _ = some (.int .u32 src) by go_simp); have e1 := (kc 1).trans (show _ = some (.int .u32 dst) by go_simp); have e2 := (kc 2).trans (show _ = some (.int .u32 fl) by go_simp); have e3 := (kc 3).trans (show _ = some (.int .i64 (ttl - 1)) by go_simp); have e4 := (kc 4).trans (show _ = some (.slice A5 (n - 1) c5) by go_simp); have d0 := (kc1 0).trans (show _ = some (.int .u32 0) by go_simp); have d1 := (kc1 1).trans (show _ = some (.int .u32 0) by go_simp); have d2 := (kc1 2).trans (show _ = some (.int .u32 0) by go_simp); have d3 := (kc1 3).trans (show _ = some (.int .i64 0) by go_simp); have d4 := (kc1 4).trans (show _ = some (.slice none 0 0) by go_simp); have f0 : ∀ o, w6.frozen? ⟨w.heap.size, o, none⟩ = false := fun o => (kf o).trans (by go_simp); have f1 : ∀ o, w6.frozen? ⟨w.heap.size + 1, o, none⟩ = false := fun o => (kf1 o).trans (by go_simp); obtain ⟨A6, c6, rfl⟩ := own_form h1; clear kc kc1 kf kf1 h1 h2 hg6 hor6)
        go_meet
        have k0 : w.heap.size < w6.heap.size := by omega
        have k1 : w.heap.size + 1 < w6.heap.size := by omega
        refine ⟨A6, n - 1 + 1, c6, ⟨⟨by go_simp, by go_simp, by go_simp, by go_simp, by go_simp⟩, ⟨by go_simp, by go_simp, by go_simp, by go_simp, by go_simp⟩, (fun o => by go_simp), (fun o => by go_simp), by simp; omega, by simp; omega⟩, ?_, ?_, ?_, by simp; omega⟩
        · repeat with_reducible refine Own.setBelow ?_ (by show _ < w.heap.size + 2; simp) _
          with_reducible exact H1.out
        · repeat with_reducible refine Below.setCell ?_ (by simp) _
          with_reducible exact H2.out
        · have : w5.heap.size ≠ w.heap.size := by omega
          go_simp
    case rest =>
      clear p0 p1 p2 p3 p4 q0 q1 q2 q3 q4 fz fz1 hz hz1 g0 g1
      obtain ⟨A6, m6, c6, ⟨⟨p0, p1, p2, p3, p4⟩, ⟨q0, q1, q2, q3, q4⟩, fz, fz1, hz, hz1⟩, ho6, hb6', e0, hz5⟩ := hcut
      have HO6 := Lib.hid ho6
      have HB6 := Lib.hid hb6'
      have hne : w5.heap.size ≠ w.heap.size := by have := HB5.out.size; have := HZS.out; omega
      have hne1 : w5.heap.size ≠ w.heap.size + 1 := by have := HB5.out.size; have := HZS.out; omega
      clear ho6 hb6'
      go_wp2
      go_region
      go_wp2
      refine bodyPost_ret (v := .tuple #[.agg #[.int .u32 src, .int .u32 dst, .int .u32 fl, .int .i64 (ttl - 1), .slice A6 m6 c6], .int .u32 h.router, .int .i64 0]) (by simp [results, Tryz.results40, go_sem, q0, q1, q2, q3, q4, hz, hz1]) rfl ?_
      rw [HF2.out]
      refine ⟨_, rfl, ⟨A6, m6, c6, rfl, own_low (b := w.heap.size + 2) ?_ (by omega)⟩, ?_⟩
      · repeat (first | with_reducible refine Own.setBelow ?_ (by show _ < w.heap.size + 2; simp) _ | with_reducible refine own_drew ?_)
        with_reducible exact HO6.out
      · repeat (first | with_reducible refine Below.setCell ?_ (by simp) _ | with_reducible refine Below.drew ?_)
        with_reducible exact HB6.out
end Go.Proofs.YtplppbgkkfjknaaGreatDoor
namespace Go.Proofs.YtplppbgkkfjknaaGreatDoor
open Go.RowKit

set_option linter.unusedVariables false
set_option linter.unusedSimpArgs false
/-- a packet, a path and a number; the path's labels may be the argument's -/
def GivesOutB (B : Nat) (q : PD × PV × Int) (w : World) (e : Ending) (w' : World) : Prop :=
  ∃ A n c A2 n2 c2, e = .returned (.tuple #[.agg #[.int .u32 q.1.src, .int .u32 q.1.dst, .int .u32 q.1.flow, .int .i64 q.1.ttl, .slice A n c], .agg #[.int .i64 q.2.1.iface, .int .u32 q.2.1.addr, .int .u32 q.2.1.router, .int .i64 q.2.1.weight, .slice A2 n2 c2, .int .i64 q.2.1.backup], .int .i64 q.2.2]) ∧
    Ints w' w'.heap.size .i64 A n c q.1.ls ∧ Ints w' w'.heap.size .i64 A2 n2 c2 q.2.1.ls ∧ (0 < n → ∀ ad, A = some ad → w.heap.size ≤ ad.block) ∧ (0 < n2 → ∀ ad, A2 = some ad → ad.block < B ∨ w.heap.size ≤ ad.block) ∧ Below w.heap.size w w'
def LocI (w1 : World) (n : Nat) (ls : List Int) (a : Nat) (iv : Value) (W : World) : Prop :=
  ∃ k : Nat, k ≤ n ∧ iv = .int .i64 k ∧ Hid (∀ j, j < k → ls.getD j 0 ≠ (a : Int)) ∧ Hid (Below w1.heap.size w1 W)
theorem any_no {ls : List Int} {n a : Nat} (hl : ls.length = n) (h : ∀ j, j < n → ls.getD j 0 ≠ (a : Int)) : ls.any (isAt a) = false := by
  rw [List.any_eq_false]
  intro x hx
  obtain ⟨j, hj, he⟩ := List.getElem_of_mem hx
  have h1 := h j (by omega)
  rw [List.getD_eq_getElem?_getD, List.getElem?_eq_getElem hj, he] at h1
  unfold isAt
  simp only [decide_eq_true_eq]
  intro h2
  exact h1 h2.symm
theorem any_yes {ls : List Int} {n k a : Nat} (hl : ls.length = n) (hk : k < n) (h : ls.getD k 0 = (a : Int)) : ls.any (isAt a) = true := by
  rw [List.any_eq_true]
  have hk2 : k < ls.length := by omega
  rw [List.getD_eq_getElem?_getD, List.getElem?_eq_getElem hk2] at h
  refine ⟨ls[k], List.getElem_mem hk2, ?_⟩
  unfold isAt
  rw [decide_eq_true_eq]
  exact h.symm
/-- the loop over the interfaces: the group's box in gb -/
def PlnR (w : World) (B gb dn n : Nat) (act : Int) (D : List PV) (ds : List Bool) (pk : List Value) (iv : Value) (W : World) : Prop :=
  ∃ (k : Nat) (A : Option Addr) (c : Nat) (qs : List PV), k ≤ dn ∧ iv = .int .i64 k ∧ Hid (Blk W (w.heap.size + 1) 54 pk) ∧ Hid (Blk W (w.heap.size + 1 + 1) 54 [.int .u32 0, .int .u32 0, .int .u32 0, .int .i64 0, .slice none 0 0]) ∧ Hid (Blk W (w.heap.size + 1 + 1 + 1) 57 [.int .i64 0, .int .u32 0, .int .u32 0, .int .i64 0, .slice none 0 0, .int .i64 0]) ∧ Hid (Blk W gb 47 [.int .i64 act, .slice A n c]) ∧
    Hid (Paths W W.heap.size A n c qs) ∧ Hid (qs.map PV.dat = downTo act n D ds k) ∧ Hid (In (fun q => q < B ∨ gb < q) A n qs) ∧ Hid (Below w.heap.size w W)
set_option maxRecDepth 100000 in
set_option maxHeartbeats 8000000 in
theorem refPlain_any (tA gA lA bA nA : Option Addr) (tn tc gn gc ln lc bn bc nn nc : Nat) (dA A : Option Addr) (dn dc n c B : Nat) (es : List Ent) (gs : List GE) (ls : List Int) (p : PD) (ds : List Bool) (w : World) (ht : Ents w B tA tn tc es) (hg : Grps w B gA gn gc gs) (hl : Ints w B .u32 lA ln lc ls) (hd : Bls w B dA dn dc ds) (hp : Ints w w.heap.size .i64 A n c p.ls) (hB : B ≤ w.heap.size)
    (htn : tn ≤ 140737488355328) (hln : ln ≤ 140737488355328) (hdn : dn ≤ 140737488355328) (hs : ∀ g ∈ gs, g.n ≤ 1000 ∧ ∀ q ∈ g.ps, q.ls.length ≤ 1000) (hn : n ≤ 1000000) (h0 : 0 ≤ p.src ∧ p.src < 4294967296) (h1 : 0 ≤ p.dst ∧ p.dst < 4294967296) (h2 : 0 ≤ p.flow ∧ p.flow < 4294967296) (ht1 : -9223372036854775808 ≤ p.ttl ∧ p.ttl ≤ 9223372036854775807)
    (hz : rowsErr gs.length es = 0) (hgd : GoodGs gs) :
    Calls Tryz.prog 41 #[.agg #[.slice tA tn tc, .slice gA gn gc, .slice lA ln lc, .slice bA bn bc, .slice nA nn nc], .agg #[.int .u32 p.src, .int .u32 p.dst, .int .u32 p.flow, .int .i64 p.ttl, .slice A n c], .slice dA dn dc] w (GivesOutB B (addrR es gs ls p ds) w) := by
  obtain ⟨src, dst, fl, ttl, pl⟩ := p
  dsimp only at hp h0 h1 h2 ht1 ⊢
  obtain ⟨a, rfl⟩ : ∃ a : Nat, dst = a := ⟨dst.toNat, by omega⟩
  have ha : a < 4294967296 := by omega
  obtain ⟨w1, hw1⟩ : ∃ w1, (((w.alloc (.cells #[.slice tA tn tc, .slice gA gn gc, .slice lA ln lc, .slice bA bn bc, .slice nA nn nc] 35)).alloc (.cells #[.int .u32 src, .int .u32 a, .int .u32 fl, .int .i64 ttl, .slice A n c] 54)).alloc (.cells #[.int .u32 0, .int .u32 0, .int .u32 0, .int .i64 0, .slice none 0 0] 54)).alloc (.cells #[.int .i64 0, .int .u32 0, .int .u32 0, .int .i64 0, .slice none 0 0, .int .i64 0] 57) = w1 := ⟨_, rfl⟩
  obtain ⟨k0, k1, k2, k3, k4⟩ := four_blks w 35 54 54 57 #[.slice tA tn tc, .slice gA gn gc, .slice lA ln lc, .slice bA bn bc, .slice nA nn nc] #[.int .u32 src, .int .u32 a, .int .u32 fl, .int .i64 ttl, .slice A n c] #[.int .u32 0, .int .u32 0, .int .u32 0, .int .i64 0, .slice none 0 0] #[.int .i64 0, .int .u32 0, .int .u32 0, .int .i64 0, .slice none 0 0, .int .i64 0]
  rw [hw1] at k0 k1 k2 k3 k4
  have HF1 : Hid (Blk w1 w.heap.size 35 [.slice tA tn tc, .slice gA gn gc, .slice lA ln lc, .slice bA bn bc, .slice nA nn nc]) := k0
  have HK1 : Hid (Blk w1 (w.heap.size + 1) 54 [.int .u32 src, .int .u32 a, .int .u32 fl, .int .i64 ttl, .slice A n c]) := k1
  have HP1 : Hid (Blk w1 (w.heap.size + 1 + 1) 54 [.int .u32 0, .int .u32 0, .int .u32 0, .int .i64 0, .slice none 0 0]) := k2
  have HQ1 : Hid (Blk w1 (w.heap.size + 1 + 1 + 1) 57 [.int .i64 0, .int .u32 0, .int .u32 0, .int .i64 0, .slice none 0 0, .int .i64 0]) := k3
  have HB1 : Hid (Below w.heap.size w w1) := k4
  clear k0 k1 k2 k3 k4
  have HLW : Hid (∀ W, Below w.heap.size w W → Ints W B .u32 lA ln lc ls) := fun W h => hl.below (h.mono hB)
  have HDW : Hid (∀ W, Below w.heap.size w W → Bls W B dA dn dc ds) := fun W h => Recs.below hd (h.mono hB)
  have HPW : Hid (∀ W, Below w.heap.size w W → Ints W w.heap.size .i64 A n c pl) := fun W h => hp.below h
  have HGW : Hid (∀ W, Below w.heap.size w W → Grps W B gA gn gc gs) := fun W h => hg.below (h.mono hB)
  have HDL : Hid (ds.length = dn) := hd.2
  have HLL : Hid (ls.length = ln) := hl.len
  have HS := Lib.hid hs
  have HGD := Lib.hid hgd
  have HRK : Hid (∀ W, Below w.heap.size w W → Calls Tryz.prog 16 #[.agg #[.slice tA tn tc, .slice gA gn gc, .slice lA ln lc, .slice bA bn bc, .slice nA nn nc], .int .u32 a] W (GivesRLk (lookG es gs a) W)) := fun W h => refLook_any tA gA lA bA nA tn tc gn gc ln lc bn bc nn nc B es gs a W (ht.below (h.mono hB)) (hg.below (h.mono hB)) (by have := h.size; omega) htn ha hz
  have HR : Hid (addrR es gs ls ⟨src, a, fl, ttl, pl⟩ ds = addrOut (ls.any (isAt a)) (lookG es gs a) ⟨src, a, fl, ttl, pl⟩ ds) := by
    show _ = _
    unfold addrR
    dsimp only
    rw [Int.toNat_natCast]
  have HGM : Hid (∀ g, lookG es gs a = some g → g ∈ gs) := fun g hx => look_mem_g hx
  obtain ⟨X, hX⟩ : ∃ X, lookG es gs a = X := ⟨_, rfl⟩
  rw [hX] at HRK HGM HR
  obtain ⟨Rz, hRz⟩ : ∃ Rz, addrR es gs ls ⟨src, a, fl, ttl, pl⟩ ds = Rz := ⟨_, rfl⟩
  rw [hRz] at HR ⊢
  have f2 := HF1.out.cell 2
  simp only [List.getElem?_cons_zero, List.getElem?_cons_succ] at f2
  have hl1 := HQ1.out.lt
  have hl2 : w.heap.size < w1.heap.size := by omega
  have HI0 : Hid (LocI w1 ln ls a (.int .i64 (0 : Nat)) w1) := ⟨0, Nat.zero_le _, rfl, Lib.hid (fun j hj => absurd hj (by omega)), Lib.hid (Below.refl _ _)⟩
  clear ht hg hl hd hp hs hX hRz hz hgd
  go_enter Tryz.func41, Tryz.ntmps41
  go_wp2
  go_loopw [19] (fun iv wr => LocI w1 ln ls a iv wr) (fun iv _ => ln - (intOf iv).toNat)
  case atStart => exact HI0.out
  case round =>
    obtain ⟨k, hk, rfl, hno, hB4⟩ := hrel
    clear HI0 f2 hw1
    obtain ⟨wq, rfl⟩ : ∃ wq, wq = wr := ⟨_, rfl⟩
    have HFQ := Lib.hid (HF1.out.keep hB4.out)
    have HKQ := Lib.hid (HK1.out.keep hB4.out)
    have HPQ := Lib.hid (HP1.out.keep hB4.out)
    have HQQ := Lib.hid (HQ1.out.keep hB4.out)
    have HBQ := Lib.hid (below3 HB1.out hB4.out)
    by_cases hlt : k < ln
    case pos =>
      obtain ⟨wD, hwD⟩ : ∃ wD, wq.drew = wD := ⟨_, rfl⟩
      have hbD : Below wq.heap.size wq wD := by rw [← hwD]; exact (Below.refl _ _).drew
      have HBD := Lib.hid (below3 hB4.out hbD)
      have HBW := Lib.hid (below3 HBQ.out hbD)
      have HPD := Lib.hid (HPQ.out.keep hbD)
      have HQD := Lib.hid (HQQ.out.keep hbD)
      obtain ⟨b, o, x, rfl, hbN, hc, HX⟩ := (HLW.out _ HBW.out).cell hlt
      have g0 : wD.cell? ⟨w.heap.size, 2, none⟩ = some (.slice (some ⟨b, o, none⟩) ln lc) := (HFQ.out.keep hbD).cell 2
      have g1 : wD.cell? ⟨w.heap.size + 1, 1, none⟩ = some (.int .u32 a) := (HKQ.out.keep hbD).cell 1
      have HSD : Hid (wD.cell? ⟨w.heap.size, 2, none⟩ = some (.slice (some ⟨b, o, none⟩) ln lc) ∧ wD.cell? ⟨b, o + k, none⟩ = some (.int .u32 x) ∧ wD.cell? ⟨w.heap.size + 1, 1, none⟩ = some (.int .u32 a)) := ⟨g0, hc, g1⟩
      obtain ⟨eb, heb⟩ : ∃ eb, (x == (a : Int)) = eb := ⟨_, rfl⟩
      have HEB := Lib.hid heb
      clear hc hbD g0 g1 heb
      go_upto_region 4 with fail
      refine wp_region_noPanic ?_
      refine wp_region_held_drew (S := fun V => V.cell? ⟨w.heap.size, 2, none⟩ = some (.slice (some ⟨b, o, none⟩) ln lc) ∧ V.cell? ⟨b, o + k, none⟩ = some (.int .u32 x) ∧ V.cell? ⟨w.heap.size + 1, 1, none⟩ = some (.int .u32 a)) (by kernel_rfl) (by rw [hwD]; exact HSD.out) (fun hHeld => ?_)
      rw [hwD] at hHeld ⊢
      clear hwD
      refine take_in (i := 0) _ (some 22) (by kernel_rfl) (by kernel_rfl) (by kernel_rfl) (by kernel_rfl) (fun _ _ _ h => h) (by rfl) (fun o ho w hSw => by cases ho; (try dsimp only at hSw); (try go_split_ands); go_simp; (try with_reducible rfl)) hHeld ?_
      try simp only [Act.put, List.setIfInBounds_toArray, List.set_cons_zero, List.set_cons_succ]
      refine take_in (i := 1) _ (some 23) (by kernel_rfl) (by kernel_rfl) (by kernel_rfl) (by kernel_rfl) (fun _ _ _ h => h) (by rfl) (fun o ho w hSw => by cases ho; (try dsimp only at hSw); (try go_split_ands); go_simp; (try with_reducible rfl)) hHeld ?_
      try simp only [Act.put, List.setIfInBounds_toArray, List.set_cons_zero, List.set_cons_succ]
      refine take_in (i := 2) _ (some 24) (by kernel_rfl) (by kernel_rfl) (by kernel_rfl) (by kernel_rfl) (fun _ _ _ h => h) (by rfl) (fun o ho w hSw => by cases ho; (try dsimp only at hSw); (try go_split_ands); go_simp; (try with_reducible rfl)) hHeld ?_
      try simp only [Act.put, List.setIfInBounds_toArray, List.set_cons_zero, List.set_cons_succ]
      refine take_in (i := 3) _ (some 25) (by kernel_rfl) (by kernel_rfl) (by kernel_rfl) (by kernel_rfl) (fun _ _ _ h => h) (by rfl) (fun o ho w hSw => by cases ho; (try dsimp only at hSw); (try go_split_ands); go_simp; (try with_reducible rfl)) hHeld ?_
      try simp only [Act.put, List.setIfInBounds_toArray, List.set_cons_zero, List.set_cons_succ]
      refine take_in (i := 4) _ (some 26) (by kernel_rfl) (by kernel_rfl) (by kernel_rfl) (by kernel_rfl) (fun _ _ _ h => h) (by rfl) (fun o ho w hSw => by cases ho; (try dsimp only at hSw); (try go_split_ands); go_simp; (try with_reducible rfl)) hHeld ?_
      try simp only [Act.put, List.setIfInBounds_toArray, List.set_cons_zero, List.set_cons_succ]
      refine take_in (i := 5) _ (some 27) (by kernel_rfl) (by kernel_rfl) (by kernel_rfl) (by kernel_rfl) (fun _ _ _ h => h) (by rfl) (fun o ho w hSw => by cases ho; (try dsimp only at hSw); (try go_split_ands); go_simp; (try with_reducible rfl)) hHeld ?_
      try simp only [Act.put, List.setIfInBounds_toArray, List.set_cons_zero, List.set_cons_succ]
      refine take_in (i := 6) _ (some 28) (by kernel_rfl) (by kernel_rfl) (by kernel_rfl) (by kernel_rfl) (fun _ _ _ h => h) (by rfl) (fun o ho w hSw => by cases ho; (try dsimp only at hSw); (try go_split_ands); go_simp; (try with_reducible rfl)) hHeld ?_
      try simp only [Act.put, List.setIfInBounds_toArray, List.set_cons_zero, List.set_cons_succ]
      refine take_in (i := 7) _ (some 29) (by kernel_rfl) (by kernel_rfl) (by kernel_rfl) (by kernel_rfl) (fun _ _ _ h => h) (by rfl) (fun o ho w hSw => by cases ho; (try dsimp only at hSw); (try go_split_ands); go_simp; (try with_reducible rfl)) hHeld ?_
      try simp only [Act.put, List.setIfInBounds_toArray, List.set_cons_zero, List.set_cons_succ]
      refine wpAnyH_done (by kernel_rfl) ?_ _
      refine NoPanic.normal ?_
      rw [HEB.out]
      clear HSD
      cases eb with
      | true =>
        have HF : Hid (Rz = (zeroPD, zeroP, 1)) := by
          show _ = _
          rw [HR.out, any_yes HLL.out hlt (by rw [HX.out]; simpa using HEB.out)]
          rfl
        obtain ⟨HQz, HPz1, HPz2, HBz, _⟩ := out_facts [.int .u32 0, .int .u32 0, .int .u32 0, .int .i64 0, .slice none 0 0] [.int .i64 0, .int .u32 0, .int .u32 0, .int .i64 0, .slice none 0 0, .int .i64 0] HPD.out HQD.out HBW.out (Nat.le_refl _)
        go_wp2_with (first | (refine wpList_store_blk rfl 54 _ _ rfl (w.heap.size + 1 + 1) rfl rfl HPD.out (by kernel_rfl) rfl (by kernel_rfl) ?_) | (refine wpList_store_blk rfl 57 _ _ rfl (w.heap.size + 1 + 1 + 1) rfl rfl HQz.out (by kernel_rfl) rfl (by kernel_rfl) ?_))
        refine bodyPost_ret (results_cells3 rfl _ (w.heap.size + 1 + 1) (w.heap.size + 1 + 1 + 1) _ _ rfl rfl HPz1.out HPz2.out Tryz.underlying54 rfl (by kernel_rfl) Tryz.underlying57 rfl (by kernel_rfl)) rfl ?_
        rw [HF.out]
        exact ⟨none, 0, 0, none, 0, 0, rfl, ints_nil _ _, ints_nil _ _, fun h => absurd h (by omega), fun h => absurd h (by omega), HBz.out⟩
      | false =>
        have HN : Hid (∀ j, j < k + 1 → ls.getD j 0 ≠ (a : Int)) := by
          intro j hj
          rcases Nat.lt_or_ge j k with h | h
          · exact hno.out j h
          · obtain rfl : j = k := by omega
            rw [HX.out]
            simpa using HEB.out
        go_wp2
        go_roundw
        case rel => exact ⟨k + 1, by omega, by go_num, HN, HBD⟩
        case measure => simp [intOf]; omega
    case neg =>
      obtain rfl : k = ln := by omega
      have HRF : Hid (Rz = addrOut false X ⟨src, a, fl, ttl, pl⟩ ds) := by
        show _ = _
        rw [HR.out, any_no HLL.out hno.out]
      have HLK := Lib.hid (HRK.out wq HBQ.out)
      have f0 := HFQ.out.cell 0
      have f1 := HFQ.out.cell 1
      have f2 := HFQ.out.cell 2
      have f3 := HFQ.out.cell 3
      have f4 := HFQ.out.cell 4
      have q1 := HKQ.out.cell 1
      simp only [List.getElem?_cons_zero, List.getElem?_cons_succ] at f0 f1 f2 f3 f4 q1
      have hlq1 := HQQ.out.lt
      have hlq2 := HFQ.out.lt
      have hlq3 := HKQ.out.lt
      have hB1s := HB1.out.size
      have hBqs := HBQ.out.size
      clear HR hno HF1 HK1 HP1 HQ1 hl1 hl2
      go_wp2_with fail
      refine HLK.out.mono ?_
      rintro e w2 ⟨hb2, he⟩
      cases X with
      | none =>
        have he2 : e = .returned (.tuple #[.agg #[.int .i64 0, .slice none 0 0], .bool false]) := he
        subst he2
        have HF : Hid (Rz = (zeroPD, zeroP, 2)) := by show _ = _; rw [HRF.out]; rfl
        have hb2s := hb2.size
        obtain ⟨w3, hw3⟩ : ∃ w3, w2.alloc (.cells #[.int .i64 0, .slice none 0 0] 47) = w3 := ⟨_, rfl⟩
        have hb3 : Below w2.heap.size w2 w3 := by rw [← hw3]; exact belowA _ _
        have HE3 : Hid (Blk w3 w2.heap.size 47 [.int .i64 0, .slice none 0 0]) := by show Blk _ _ _ _; rw [← hw3]; exact Blk.new w2 _ _
        obtain ⟨w4, hw4⟩ : ∃ w4, w3.setRow w2.heap.size #[.int .i64 0, .slice none 0 0] = w4 := ⟨_, rfl⟩
        have hsr : Save w2.heap.size w3 w4 := by rw [← hw4]; exact Save.row _ _ _
        have hb12 := below3 hb2 hb3
        have HB4 := Lib.hid ((below3 HBQ.out hb12).trans (hsr.below (by omega) (below3 HBQ.out hb12).size))
        have HP4 := Lib.hid ((HPQ.out.keep hb12).save hsr (by omega))
        have HQ4 := Lib.hid ((HQQ.out.keep hb12).save hsr (by omega))
        clear HLK hb2 hb3 hb12 hsr f0 f1 f2 f3 f4 q1 he
        go_upto_region 8 with (refine wpList_store_blk rfl 47 _ _ rfl w2.heap.size rfl rfl HE3.out (by kernel_rfl) rfl (by kernel_rfl) ?_)
        try rw [hw4]
        obtain ⟨HQz, HPz1, HPz2, HBz, _⟩ := out_facts [.int .u32 0, .int .u32 0, .int .u32 0, .int .i64 0, .slice none 0 0] [.int .i64 0, .int .u32 0, .int .u32 0, .int .i64 0, .slice none 0 0, .int .i64 0] HP4.out HQ4.out HB4.out (Nat.le_refl _)
        go_wp2_with (first | (refine wpList_store_blk rfl 54 _ _ rfl (w.heap.size + 1 + 1) rfl rfl HP4.out (by kernel_rfl) rfl (by kernel_rfl) ?_) | (refine wpList_store_blk rfl 57 _ _ rfl (w.heap.size + 1 + 1 + 1) rfl rfl HQz.out (by kernel_rfl) rfl (by kernel_rfl) ?_))
        refine bodyPost_ret (results_cells3 rfl _ (w.heap.size + 1 + 1) (w.heap.size + 1 + 1 + 1) _ _ rfl rfl HPz1.out HPz2.out Tryz.underlying54 rfl (by kernel_rfl) Tryz.underlying57 rfl (by kernel_rfl)) rfl ?_
        rw [HF.out]
        exact ⟨none, 0, 0, none, 0, 0, rfl, ints_nil _ _, ints_nil _ _, fun h => absurd h (by omega), fun h => absurd h (by omega), HBz.out⟩
      | some g =>
        have he2 : e = .returned (.tuple #[.agg #[.int .i64 g.act, .slice g.A g.n g.c], .bool true]) := he
        subst he2
        have hgm := HGM.out g rfl
        have hps := (HGW.out _ HBQ.out).2 g hgm
        obtain ⟨hg1, hg2⟩ := HS.out g hgm
        obtain ⟨hgd1, hgd2⟩ := HGD.out g hgm
        obtain ⟨act, gA2, gn2, gc2, gps⟩ := g
        dsimp only at hps hg1 hg2 hgd1 hgd2 ⊢
        have hb2s := hb2.size
        have hN3 : w.heap.size + 1 + 1 + 1 < w2.heap.size := by omega
        have HGL : Hid (∀ q ∈ gps, q.ls.length ≤ 1000) := hg2
        obtain ⟨D, hD⟩ : ∃ D, gps.map PV.dat = D := ⟨_, rfl⟩
        rw [hD] at hgd1
        have HRS : Hid (Rz = if act < 1 then (zeroPD, zeroP, (5 : Int)) else if ttl ≤ 1 then (zeroPD, zeroP, 3)
            else if pick act gn2 (downTo act gn2 D ds ds.length) (h3 src a fl) < 0 ∨ (gn2 : Int) ≤ pick act gn2 (downTo act gn2 D ds ds.length) (h3 src a fl) then (zeroPD, zeroP, 4)
            else ((⟨src, a, fl, ttl - 1, pl ++ ((downTo act gn2 D ds ds.length).getD (pick act gn2 (downTo act gn2 D ds ds.length) (h3 src a fl)).toNat zeroP).ls⟩ : PD), (downTo act gn2 D ds ds.length).getD (pick act gn2 (downTo act gn2 D ds ds.length) (h3 src a fl)).toNat zeroP, 0)) := by
          show _ = _
          rw [HRF.out, ← hD]
          rfl
        have HDN : Hid (D.length = gn2) := by
          show _ = _
          rw [← hD, List.length_map]
          exact hgd2
        have hidem : D.map PV.dat = D := by rw [← hD]; exact map_dat_dat gps
        have HINV : Hid (∀ k, DownInv act gn2 ds k (downTo act gn2 D ds k)) := fun k => down_inv hgd1 HDN.out hidem ds k
        have HDL2 : Hid (∀ d ∈ D, d.ls.length ≤ 1000) := by
          intro d hd
          rw [← hD] at hd
          obtain ⟨q, hq, rfl⟩ := List.mem_map.1 hd
          exact HGL.out q hq
        have ha0 : 0 ≤ act := hgd1.a0
        obtain ⟨w3, hw3⟩ : ∃ w3, w2.alloc (.cells #[.int .i64 act, .slice gA2 gn2 gc2] 47) = w3 := ⟨_, rfl⟩
        have hb3 : Below w2.heap.size w2 w3 := by rw [← hw3]; exact belowA _ _
        have HG3 : Hid (Blk w3 w2.heap.size 47 [.int .i64 act, .slice gA2 gn2 gc2]) := by show Blk _ _ _ _; rw [← hw3]; exact Blk.new w2 _ _
        have hb12 := below3 hb2 hb3
        have HB3 := Lib.hid (below3 HBQ.out hb12)
        have HK3 := Lib.hid (HKQ.out.keep hb12)
        have HP3 := Lib.hid (HPQ.out.keep hb12)
        have HQ3 := Lib.hid (HQQ.out.keep hb12)
        have hb3s := HB3.out.size
        have HI1 : Hid (PlnR w B w2.heap.size dn gn2 act D ds [.int .u32 src, .int .u32 a, .int .u32 fl, .int .i64 ttl, .slice A n c] (.int .i64 (0 : Nat)) w3) :=
          ⟨0, gA2, gc2, gps, Nat.zero_le _, rfl, HK3, HP3, HQ3, HG3, Lib.hid ((hps.below (hb12.mono (by omega))).more (by omega)), Lib.hid hD, Lib.hid ((paths_in hps).mono fun q h => .inl h), HB3⟩
        have q3' := HK3.out.cell 3
        have g0' := HG3.out.cell 0
        simp only [List.getElem?_cons_zero, List.getElem?_cons_succ] at q3' g0'
        have hlt3 := HQ3.out.lt
        have hlk3 := HK3.out.lt
        have hlg3 := HG3.out.lt
        clear HLK hb2 hb3 hb12 f0 f1 f2 f3 f4 q1 hps hD hg2 HGM he HRF HRK hgd1 hgd2 hidem hgm
        by_cases ha1 : act = 0
        · have HF : Hid (Rz = (zeroPD, zeroP, 5)) := by show _ = _; rw [HRS.out, if_pos (by omega)]
          have da : (act == 0) = true := by simp [ha1]
          clear ha1
          go_upto_region 8 with fail
          try rw [hw3]
          obtain ⟨HQz, HPz1, HPz2, HBz, _⟩ := out_facts [.int .u32 0, .int .u32 0, .int .u32 0, .int .i64 0, .slice none 0 0] [.int .i64 0, .int .u32 0, .int .u32 0, .int .i64 0, .slice none 0 0, .int .i64 0] HP3.out HQ3.out HB3.out (Nat.le_refl _)
          go_wp2_with (first | (refine wpList_store_blk rfl 54 _ _ rfl (w.heap.size + 1 + 1) rfl rfl HP3.out (by kernel_rfl) rfl (by kernel_rfl) ?_) | (refine wpList_store_blk rfl 57 _ _ rfl (w.heap.size + 1 + 1 + 1) rfl rfl HQz.out (by kernel_rfl) rfl (by kernel_rfl) ?_))
          refine bodyPost_ret (results_cells3 rfl _ (w.heap.size + 1 + 1) (w.heap.size + 1 + 1 + 1) _ _ rfl rfl HPz1.out HPz2.out Tryz.underlying54 rfl (by kernel_rfl) Tryz.underlying57 rfl (by kernel_rfl)) rfl ?_
          rw [HF.out]
          exact ⟨none, 0, 0, none, 0, 0, rfl, ints_nil _ _, ints_nil _ _, fun h => absurd h (by omega), fun h => absurd h (by omega), HBz.out⟩
        have da : (act == 0) = false := by simp [ha1]
        have ha2 : ¬ act < 1 := by omega
        by_cases ht1' : ttl ≤ 1
        · have HF : Hid (Rz = (zeroPD, zeroP, 3)) := by show _ = _; rw [HRS.out, if_neg ha2, if_pos ht1']
          have dt : decide (ttl ≤ 1) = true := decide_eq_true ht1'
          clear ha1 ht1' ha2
          go_upto_region 8 with fail
          try rw [hw3]
          obtain ⟨HQz, HPz1, HPz2, HBz, _⟩ := out_facts [.int .u32 0, .int .u32 0, .int .u32 0, .int .i64 0, .slice none 0 0] [.int .i64 0, .int .u32 0, .int .u32 0, .int .i64 0, .slice none 0 0, .int .i64 0] HP3.out HQ3.out HB3.out (Nat.le_refl _)
          go_wp2_with (first | (refine wpList_store_blk rfl 54 _ _ rfl (w.heap.size + 1 + 1) rfl rfl HP3.out (by kernel_rfl) rfl (by kernel_rfl) ?_) | (refine wpList_store_blk rfl 57 _ _ rfl (w.heap.size + 1 + 1 + 1) rfl rfl HQz.out (by kernel_rfl) rfl (by kernel_rfl) ?_))
          refine bodyPost_ret (results_cells3 rfl _ (w.heap.size + 1 + 1) (w.heap.size + 1 + 1 + 1) _ _ rfl rfl HPz1.out HPz2.out Tryz.underlying54 rfl (by kernel_rfl) Tryz.underlying57 rfl (by kernel_rfl)) rfl ?_
          rw [HF.out]
          exact ⟨none, 0, 0, none, 0, 0, rfl, ints_nil _ _, ints_nil _ _, fun h => absurd h (by omega), fun h => absurd h (by omega), HBz.out⟩
        have dt : decide (ttl ≤ 1) = false := decide_eq_false ht1'
        have HR3 := HRS.out
        rw [if_neg ha2, if_neg ht1', HDL.out] at HR3
        have HR4 := Lib.hid HR3
        clear HR3 HRS ha1 ha2
        go_upto_region 8 with fail
        try rw [hw3]
        go_wp2
        go_loopw [56] (fun iv wr => PlnR w B w2.heap.size dn gn2 act D ds [.int .u32 src, .int .u32 a, .int .u32 fl, .int .i64 ttl, .slice A n c] iv wr) (fun iv _ => dn - (intOf iv).toNat)
        case atStart => exact HI1.out
        case round =>
          obtain ⟨k2, A3, c3, rs, hk2, rfl, hK, hP, hQ, hG, hPS, hDT, hIN, hB5⟩ := hrel
          clear HI1 q3' g0' HG3 HK3 HP3 HQ3 hlt3 hlk3 hlg3 da dt HFQ HKQ HPQ HQQ hlq1 hlq2 hlq3 hw3
          by_cases hlt2 : k2 < dn
          case neg =>
            obtain rfl : dn = k2 := by omega
            obtain ⟨GT, hGT⟩ : ∃ GT, downTo act gn2 D ds dn = GT := ⟨_, rfl⟩
            rw [hGT] at hDT HR4
            have hev := hPS.out.even
            have hinv := HINV.out dn
            rw [hGT] at hinv
            have HGLS : Hid (∀ d ∈ GT, d.ls.length ≤ 1000) := by
              intro d hd
              rw [← hGT] at hd
              exact downTo_ls (Q := fun l => l.length ≤ 1000) (by simp) HDL2.out dn d hd
            obtain ⟨fv, hfv⟩ : ∃ fv, h3 src a fl = fv := ⟨_, rfl⟩
            have hfb := h3_bd src a fl
            rw [hfv] at hfb HR4
            obtain ⟨K0, hKK⟩ : ∃ K0, pick act gn2 GT fv = K0 := ⟨_, rfl⟩
            have HRNG : Hid (0 ≤ K0 → K0 < (gn2 : Int)) := by
              intro h
              obtain ⟨i, e1, _, e3, _⟩ := pick_range hinv.good fv (by rw [hKK]; exact h)
              rw [hKK] at e1
              omega
            rw [hKK] at HR4
            have hpk : pick act gn2 rs fv = K0 := by rw [← hKK, ← hDT.out, pick_dat hev]
            obtain ⟨wD, hwD⟩ : ∃ wD, wr.drew = wD := ⟨_, rfl⟩
            have hbD : Below wr.heap.size wr wD := by rw [← hwD]; exact (Below.refl _ _).drew
            have hszD := hbD.size
            have HGDx := Lib.hid (hG.out.keep hbD)
            have HKD := Lib.hid (hK.out.keep hbD)
            have HPD := Lib.hid (hP.out.keep hbD)
            have HQD := Lib.hid (hQ.out.keep hbD)
            have HPS := Lib.hid ((hPS.out.below hbD).more hszD)
            have HBD := Lib.hid (below3 hB5.out hbD)
            have HFL := Lib.hid (refFlow_any src a fl ttl (.slice A n c) wD h0 h1 h2)
            have HPK : Hid (∀ W, Below wD.heap.size wD W → Calls Tryz.prog 81 #[.agg #[.int .i64 act, .slice A3 gn2 c3], .int .u32 fv] W fun e w' => e = .returned (.int .i64 K0) ∧ Below W.heap.size W w') := by
              intro W hW
              have h := refPick_any A3 gn2 c3 W.heap.size act fv rs W ((HPS.out.below hW).more hW.size) (Nat.le_refl _) (by omega) hfb
              rw [hpk] at h
              exact h
            rw [hfv] at HFL
            have HSD : Hid (Blk wD w2.heap.size 47 [.int .i64 act, .slice A3 gn2 c3] ∧ Blk wD (w.heap.size + 1) 54 [.int .u32 src, .int .u32 a, .int .u32 fl, .int .i64 ttl, .slice A n c]) := ⟨HGDx.out, HKD.out⟩
            have HDT := Lib.hid hDT.out
            have HIN := Lib.hid hIN.out
            clear hK hP hQ hG hPS hDT hIN hB5 hGT hev hfv hKK hpk hbD hinv
            go_upto_region 20 with fail
            refine wp_region_noPanic ?_
            refine wp_region_held_drew (S := fun V => Blk V w2.heap.size 47 [.int .i64 act, .slice A3 gn2 c3] ∧ Blk V (w.heap.size + 1) 54 [.int .u32 src, .int .u32 a, .int .u32 fl, .int .i64 ttl, .slice A n c]) (by kernel_rfl) (by rw [hwD]; exact HSD.out) (fun hHeld => ?_)
            rw [hwD] at hHeld ⊢
            clear hwD
            refine take_in (i := 0) _ (some 67) (by kernel_rfl) (by kernel_rfl) (by kernel_rfl) (by kernel_rfl) (fun _ _ _ h => h) (by rfl) (fun o ho w hSw => by cases ho; exact run_load_blk _ _ rfl _ rfl (hSw.1) _ Tryz.underlying47 rfl (by kernel_rfl)) hHeld ?_
            try simp only [Act.put, List.setIfInBounds_toArray, List.set_cons_zero, List.set_cons_succ]
            refine take_in (i := 1) _ (some 68) (by kernel_rfl) (by kernel_rfl) (by kernel_rfl) (by kernel_rfl) (fun _ _ _ h => h) (by rfl) (fun o ho w hSw => by cases ho; exact run_load_blk _ _ rfl _ rfl (hSw.2) _ Tryz.underlying54 rfl (by kernel_rfl)) hHeld ?_
            try simp only [Act.put, List.setIfInBounds_toArray, List.set_cons_zero, List.set_cons_succ]
            refine wpAnyH_ready (rs := [2]) (by kernel_rfl) (by simp) ?_
            refine AllReadyH.cons (o := _) rfl (fun K hK => ?_) AllReadyH.nil
            go_simp
            go_at_call 82
            with_reducible refine HFL.out.mono ?_
            rintro e wX ⟨rfl, hbX⟩
            have HPKX := Lib.hid (HPK.out wX hbX)
            have HGX := Lib.hid (HGDx.out.keep hbX)
            have HKX := Lib.hid (HKD.out.keep hbX)
            have HPX := Lib.hid (HPD.out.keep hbX)
            have HQX := Lib.hid (HQD.out.keep hbX)
            have HPSX := Lib.hid ((HPS.out.below hbX).more hbX.size)
            have HBX := Lib.hid (below3 HBD.out hbX)
            have HSX : Hid (Blk wX w2.heap.size 47 [.int .i64 act, .slice A3 gn2 c3] ∧ Blk wX (w.heap.size + 1) 54 [.int .u32 src, .int .u32 a, .int .u32 fl, .int .i64 ttl, .slice A n c]) := ⟨HGX.out, HKX.out⟩
            clear hbX
            refine hK.out _ _ HSX.out (fun hHeld => ?_)
            clear hK K
            try simp only [Act.put, List.setIfInBounds_toArray, List.set_cons_zero, List.set_cons_succ]
            refine wpAnyH_ready (rs := [3]) (by kernel_rfl) (by simp) ?_
            refine AllReadyH.cons (o := _) rfl (fun K hK => ?_) AllReadyH.nil
            go_simp
            go_at_call 81
            with_reducible refine HPKX.out.mono ?_
            rintro e wY ⟨rfl, hbY⟩
            have HGY := Lib.hid (HGX.out.keep hbY)
            have HKY := Lib.hid (HKX.out.keep hbY)
            have HPY := Lib.hid (HPX.out.keep hbY)
            have HQY := Lib.hid (HQX.out.keep hbY)
            have HPSY := Lib.hid ((HPSX.out.below hbY).more hbY.size)
            have HBY := Lib.hid (below3 HBX.out hbY)
            have HSY : Hid (Blk wY w2.heap.size 47 [.int .i64 act, .slice A3 gn2 c3] ∧ Blk wY (w.heap.size + 1) 54 [.int .u32 src, .int .u32 a, .int .u32 fl, .int .i64 ttl, .slice A n c]) := ⟨HGY.out, HKY.out⟩
            clear hbY
            refine hK.out _ _ HSY.out (fun hHeld => ?_)
            clear hK K
            try simp only [Act.put, List.setIfInBounds_toArray, List.set_cons_zero, List.set_cons_succ]
            refine take_in (i := 4) _ (some 13) (by kernel_rfl) (by kernel_rfl) (by kernel_rfl) (by kernel_rfl) (fun _ _ _ h => h) (by rfl) (fun o ho w hSw => by cases ho; (try dsimp only at hSw); (try go_split_ands); go_simp; (try with_reducible rfl)) hHeld ?_
            try simp only [Act.put, List.setIfInBounds_toArray, List.set_cons_zero, List.set_cons_succ]
            refine wpAnyH_done (by kernel_rfl) ?_ _
            refine NoPanic.normal ?_
            clear HSX HSY HSD HPK HPKX HFL HGX HKX HPX HQX HPSX HBX HGDx HKD HPD HQD HPS HBD
            by_cases hK0 : K0 < 0
            · have HF : Hid (Rz = (zeroPD, zeroP, 4)) := by show _ = _; rw [HR4.out, if_pos (.inl hK0)]
              have dk : decide (K0 < 0) = true := decide_eq_true hK0
              clear hK0
              obtain ⟨HQz, HPz1, HPz2, HBz, _⟩ := out_facts [.int .u32 0, .int .u32 0, .int .u32 0, .int .i64 0, .slice none 0 0] [.int .i64 0, .int .u32 0, .int .u32 0, .int .i64 0, .slice none 0 0, .int .i64 0] HPY.out HQY.out HBY.out (Nat.le_refl _)
              go_wp2_with (first | (refine wpList_store_blk rfl 54 _ _ rfl (w.heap.size + 1 + 1) rfl rfl HPY.out (by kernel_rfl) rfl (by kernel_rfl) ?_) | (refine wpList_store_blk rfl 57 _ _ rfl (w.heap.size + 1 + 1 + 1) rfl rfl HQz.out (by kernel_rfl) rfl (by kernel_rfl) ?_))
              refine bodyPost_ret (results_cells3 rfl _ (w.heap.size + 1 + 1) (w.heap.size + 1 + 1 + 1) _ _ rfl rfl HPz1.out HPz2.out Tryz.underlying54 rfl (by kernel_rfl) Tryz.underlying57 rfl (by kernel_rfl)) rfl ?_
              rw [HF.out]
              exact ⟨none, 0, 0, none, 0, 0, rfl, ints_nil _ _, ints_nil _ _, fun h => absurd h (by omega), fun h => absurd h (by omega), HBz.out⟩
            have hrng := HRNG.out (by omega)
            obtain ⟨kk, rfl⟩ : ∃ kk : Nat, K0 = kk := ⟨K0.toNat, by omega⟩
            have dk : decide ((kk : Int) < 0) = false := decide_eq_false (by omega)
            have hkn : kk < gn2 := by omega
            obtain ⟨b, o, p, rfl, hbB, hrk, hpl, y0, y1, y2, y3, y4, y5⟩ := HPSY.out.get (j := kk) hkn
            have hGK : GT[kk]? = some p.dat := by rw [← HDT.out, List.getElem?_map, hrk]; rfl
            have hlen := HGLS.out p.dat (List.mem_of_getElem? hGK)
            have hxl := hpl.len
            have HF : Hid (Rz = ((⟨src, a, fl, ttl - 1, pl ++ p.ls⟩ : PD), p.dat, 0)) := by
              show _ = _
              rw [HR4.out, if_neg (by omega), Int.toNat_natCast, getD_of hGK]
              rfl
            have hin1 : b < B ∨ w2.heap.size < b := HIN.out.1 (by omega) _ rfl
            have hin2 : 0 < p.ln → ∀ ad, p.A = some ad → ad.block < B ∨ w2.heap.size < ad.block := HIN.out.2 p (List.mem_of_getElem? hrk)
            obtain ⟨xi, xa, xr, xw, xA, xn, xc, xl, xb⟩ := p
            dsimp only at y0 y1 y2 y3 y4 y5 hpl hxl HF hin2
            have hlen2 : xl.length ≤ 1000 := hlen
            have hbw : b < wY.heap.size := hbB
            have hNY := HQY.out.lt
            have hBYs := HBY.out.size
            obtain ⟨w7, hw7⟩ : ∃ w7, wY.alloc (.cells #[.int .u32 src, .int .u32 a, .int .u32 fl, .int .i64 ttl, .slice A n c] 54) = w7 := ⟨_, rfl⟩
            have hb7 : Below wY.heap.size wY w7 := by rw [← hw7]; exact belowA _ _
            have hs7 : w7.heap.size = wY.heap.size + 1 := by rw [← hw7]; simp
            have HO7 : Hid (Blk w7 wY.heap.size 54 [.int .u32 src, .int .u32 a, .int .u32 fl, .int .i64 ttl, .slice A n c]) := by show Blk _ _ _ _; rw [← hw7]; exact Blk.new wY _ _
            obtain ⟨w8, hw8⟩ : ∃ w8, w7.setCell ⟨wY.heap.size, 3, none⟩ (.int .i64 (ttl - 1)) = w8 := ⟨_, rfl⟩
            have hv8 : Save wY.heap.size w7 w8 := by rw [← hw8]; exact Save.set
            have hs8 : w8.heap.size = w7.heap.size := by rw [← hw8]; simp [World.setCell]
            have HO8 : Hid (Blk w8 wY.heap.size 54 [.int .u32 src, .int .u32 a, .int .u32 fl, .int .i64 (ttl - 1), .slice A n c]) := by show Blk _ _ _ _; rw [← hw8]; exact HO7.out.set 3 _
            have hb8 : Below wY.heap.size wY w8 := hb7.trans (hv8.below (Nat.le_refl _) hb7.size)
            have HB8 := Lib.hid (below3 HBY.out hb8)
            obtain ⟨v9, w9, hr9, ho9, hg9, hat9⟩ := Ints.append (P := Tryz.prog) (t := 52) (ty := 52) Tryz.underlying52 ints_info rfl (Own.nil w8 w8.heap.size 3 .i64) (HPW.out _ HB8.out) (by simp only [maxLen]; omega) (by omega) (Nat.le_refl _)
            obtain ⟨A9, c9, rfl⟩ := own_form ho9
            rw [Nat.zero_add, List.nil_append] at ho9
            rw [Nat.zero_add] at hr9 hat9
            have hq9 : ∀ q, (Value.slice A9 n c9).ownBlock = some q → w8.heap.size ≤ q ∧ q < w9.heap.size := fun q e => World.ownsRow.lt ho9 q e
            have hk9 : Keep (fun _ => True) w8 w9 := Keep.grown hg9 fun q h e => by cases e
            have hb9 : Below w8.heap.size w8 w9 := hk9.below (fun _ _ => trivial) (Nat.le_refl _)
            have hs9 := hb9.size
            have hb89 : Below wY.heap.size wY w9 := below3 hb8 hb9
            have HI9 : Hid (Ints w9 wY.heap.size .i64 xA xn xc xl) := hpl.below hb89
            obtain ⟨v10, w10, hr10, ho10, hg10, hat10⟩ := Ints.append (P := Tryz.prog) (t := 52) (ty := 52) Tryz.underlying52 ints_info rfl ho9 HI9.out (by simp only [maxLen]; omega) (by omega) (by omega)
            obtain ⟨A10, c10, rfl⟩ := own_form ho10
            have hq10 : ∀ q, (Value.slice A10 (n + xn) c10).ownBlock = some q → w8.heap.size ≤ q ∧ q < w10.heap.size := fun q e => World.ownsRow.lt ho10 q e
            have hk10 : Keep (fun q => q < w8.heap.size) w9 w10 := Keep.grown hg10 fun q h e => by have := (hq9 q e.symm).1; omega
            have hs10 := hk10.size
            have hb10 : Below wY.heap.size wY w10 := hb89.trans (hk10.below (fun q h => by omega) (by omega))
            have HO9 := Lib.hid (HO8.out.keep hb9)
            have HO10 := Lib.hid (HO9.out.kp hk10 (by omega))
            obtain ⟨w11, hw11⟩ : ∃ w11, w10.setCell ⟨wY.heap.size, 4, none⟩ (.slice A10 (n + xn) c10) = w11 := ⟨_, rfl⟩
            have hv11 : Save wY.heap.size w10 w11 := by rw [← hw11]; exact Save.set
            have HO11 : Hid (Blk w11 wY.heap.size 54 [.int .u32 src, .int .u32 a, .int .u32 fl, .int .i64 (ttl - 1), .slice A10 (n + xn) c10]) := by show Blk _ _ _ _; rw [← hw11]; exact HO10.out.set 4 _
            have hs11 := hv11.size
            have hb11 : Below wY.heap.size wY w11 := hb10.trans (hv11.below (Nat.le_refl _) (by omega))
            obtain ⟨wE, hwE⟩ : ∃ wE, w11.drew = wE := ⟨_, rfl⟩
            have hbE : Below w11.heap.size w11 wE := by rw [← hwE]; exact (Below.refl _ _).drew
            have hsE := hbE.size
            have hbYE : Below wY.heap.size wY wE := below3 hb11 hbE
            have HBE := Lib.hid (below3 HBY.out hbYE)
            have HPE := Lib.hid (HPY.out.keep hbYE)
            have HQE := Lib.hid (HQY.out.keep hbYE)
            have HOE := Lib.hid (HO11.out.keep hbE)
            have hgE : wE.cell? ⟨w2.heap.size, 1, none⟩ = some (.slice (some ⟨b, o, none⟩) gn2 c3) := (HGY.out.keep hbYE).cell 1
            have hlgE : w2.heap.size < wE.heap.size := (HGY.out.keep hbYE).lt
            have HSE : Hid (Blk wE wY.heap.size 54 [.int .u32 src, .int .u32 a, .int .u32 fl, .int .i64 (ttl - 1), .slice A10 (n + xn) c10] ∧ wE.cell? ⟨w2.heap.size, 1, none⟩ = some (.slice (some ⟨b, o, none⟩) gn2 c3) ∧ wE.cell? ⟨b, o + kk * 6, none⟩ = some (.int .i64 xi) ∧ wE.cell? ⟨b, o + kk * 6 + 1, none⟩ = some (.int .u32 xa) ∧ wE.cell? ⟨b, o + kk * 6 + 2, none⟩ = some (.int .u32 xr) ∧ wE.cell? ⟨b, o + kk * 6 + 3, none⟩ = some (.int .i64 xw) ∧ wE.cell? ⟨b, o + kk * 6 + 4, none⟩ = some (.slice xA xn xc) ∧ wE.cell? ⟨b, o + kk * 6 + 5, none⟩ = some (.int .i64 xb)) := ⟨HOE.out, hgE, (hbYE.cell (p := ⟨b, _, none⟩) hbw).trans y0, (hbYE.cell (p := ⟨b, _, none⟩) hbw).trans y1, (hbYE.cell (p := ⟨b, _, none⟩) hbw).trans y2, (hbYE.cell (p := ⟨b, _, none⟩) hbw).trans y3, (hbYE.cell (p := ⟨b, _, none⟩) hbw).trans y4, (hbYE.cell (p := ⟨b, _, none⟩) hbw).trans y5⟩
            have HSS : Hid (∀ (V V2 : World) (g : Nat), wE.heap.size ≤ V.heap.size → Save g V V2 → g ≠ wY.heap.size → g ≠ w2.heap.size → g ≠ b → (Blk V wY.heap.size 54 [.int .u32 src, .int .u32 a, .int .u32 fl, .int .i64 (ttl - 1), .slice A10 (n + xn) c10] ∧ V.cell? ⟨w2.heap.size, 1, none⟩ = some (.slice (some ⟨b, o, none⟩) gn2 c3) ∧ V.cell? ⟨b, o + kk * 6, none⟩ = some (.int .i64 xi) ∧ V.cell? ⟨b, o + kk * 6 + 1, none⟩ = some (.int .u32 xa) ∧ V.cell? ⟨b, o + kk * 6 + 2, none⟩ = some (.int .u32 xr) ∧ V.cell? ⟨b, o + kk * 6 + 3, none⟩ = some (.int .i64 xw) ∧ V.cell? ⟨b, o + kk * 6 + 4, none⟩ = some (.slice xA xn xc) ∧ V.cell? ⟨b, o + kk * 6 + 5, none⟩ = some (.int .i64 xb)) → (Blk V2 wY.heap.size 54 [.int .u32 src, .int .u32 a, .int .u32 fl, .int .i64 (ttl - 1), .slice A10 (n + xn) c10] ∧ V2.cell? ⟨w2.heap.size, 1, none⟩ = some (.slice (some ⟨b, o, none⟩) gn2 c3) ∧ V2.cell? ⟨b, o + kk * 6, none⟩ = some (.int .i64 xi) ∧ V2.cell? ⟨b, o + kk * 6 + 1, none⟩ = some (.int .u32 xa) ∧ V2.cell? ⟨b, o + kk * 6 + 2, none⟩ = some (.int .u32 xr) ∧ V2.cell? ⟨b, o + kk * 6 + 3, none⟩ = some (.int .i64 xw) ∧ V2.cell? ⟨b, o + kk * 6 + 4, none⟩ = some (.slice xA xn xc) ∧ V2.cell? ⟨b, o + kk * 6 + 5, none⟩ = some (.int .i64 xb))) := by
              rintro V V2 g hV hsv n1 n2 n3 ⟨s0, s1, s2, s3, s4, s5, s6, s7⟩
              exact ⟨s0.save hsv (by omega), (hsv.cell (by omega) (by omega)).trans s1, (hsv.cell (by omega) (by omega)).trans s2, (hsv.cell (by omega) (by omega)).trans s3, (hsv.cell (by omega) (by omega)).trans s4, (hsv.cell (by omega) (by omega)).trans s5, (hsv.cell (by omega) (by omega)).trans s6, (hsv.cell (by omega) (by omega)).trans s7⟩
            have HEND : Hid (∀ W, Below w.heap.size w W → Keep (fun q => q ≠ w.heap.size + 1 + 1 ∧ q ≠ w.heap.size + 1 + 1 + 1) wE W → GivesOutB B ((⟨src, a, fl, ttl - 1, pl ++ xl⟩ : PD), PV.dat ⟨xi, xa, xr, xw, xA, xn, xc, xl, xb⟩, 0) w (.returned (.tuple #[.agg #[.int .u32 src, .int .u32 a, .int .u32 fl, .int .i64 (ttl - 1), .slice A10 (n + xn) c10], .agg #[.int .i64 xi, .int .u32 xa, .int .u32 xr, .int .i64 xw, .slice xA xn xc, .int .i64 xb], .int .i64 0])) W) := by
              intro W hW hkW
              have hsW := hkW.size
              have hoE : Ints wE wE.heap.size .i64 A10 (n + xn) c10 (pl ++ xl) := ((ints_save ho10.ints hv11 (Nat.le_refl _) (fun _ ad e => by have := hq10 ad.block (by rw [e]; rfl); omega)).more hs11 |>.below hbE).more hsE
              have hxE : Ints wE wE.heap.size .i64 xA xn xc xl := (hpl.below hbYE).more (by omega)
              refine ⟨A10, n + xn, c10, xA, xn, xc, rfl, ?_, ?_, fun _ ad e => by have := hq10 ad.block (by rw [e]; rfl); omega, fun hx ad e => by have := hin2 hx ad e; omega, hW⟩
              · exact (ints_kp hoE hkW (Nat.le_refl _) (fun _ ad e => by have := hq10 ad.block (by rw [e]; rfl); exact ⟨by omega, by omega⟩)).more hsW
              · exact (ints_kp hxE hkW (Nat.le_refl _) (fun hx ad e => by have := hin2 hx ad e; exact ⟨by omega, by omega⟩)).more hsW
            have HR9 := Lib.hid hr9
            have HR10 := Lib.hid hr10
            have k0 := HKY.out.cell 0
            have k1 := HKY.out.cell 1
            have k2 := HKY.out.cell 2
            have k3 := HKY.out.cell 3
            have k4 := HKY.out.cell 4
            simp only [List.getElem?_cons_zero, List.getElem?_cons_succ] at k0 k1 k2 k3 k4
            have hlkY := HKY.out.lt
            have o73 := HO7.out.cell 3
            have z73 := HO7.out.frozen 3
            have k73 := (HKY.out.keep hb7).cell 3
            have k84 := (HKY.out.keep hb8).cell 4
            have g9 := (HGY.out.keep hb89).cell 1
            have c94 : w9.cell? ⟨b, o + kk * 6 + 4, none⟩ = some (.slice xA xn xc) := (hb89.cell (p := ⟨b, _, none⟩) hbw).trans y4
            have o104 := HO10.out.cell 4
            have z104 := HO10.out.frozen 4
            simp only [List.getElem?_cons_zero, List.getElem?_cons_succ] at o73 k73 k84 g9 o104
            have l7 : wY.heap.size < w7.heap.size := by omega
            have l7b : w.heap.size + 1 < w7.heap.size := by omega
            have l8b : w.heap.size + 1 < w8.heap.size := by omega
            have l9g : w2.heap.size < w9.heap.size := (HGY.out.keep hb89).lt
            have l9b : b < w9.heap.size := by omega
            have l10 : wY.heap.size < w10.heap.size := by omega
            have hne1 : b ≠ w.heap.size + 1 + 1 := by omega
            have hne2 : b ≠ w.heap.size + 1 + 1 + 1 := by omega
            clear hrk hGK hlen hpl HR4 HDT HGLS HPSY hin1 hin2 hr9 ho9 hg9 hat9 hr10 ho10 hg10 hat10 hq9 hq10 hk9 hk10 hb7 hb8 hb9 hb89 hb10 hb11 hbE hbYE hv8 hv11 hgE y0 y1 y2 y3 y4 y5
            go_upto_region 24 with fail
            try rw [hw7]
            clear k0 k1 k2 k3 k4
            go_upto_region 26 with fail
            try rw [hw8]
            go_upto_region 27 with (at_builtin; refine wpList_append_run rfl _ _ _ rfl rfl rfl HR9.out ?_)
            go_upto_region 28 with (at_builtin; refine wpList_append_run rfl _ _ _ rfl rfl rfl HR10.out ?_)
            go_upto_region 29 with fail
            try rw [hw11]
            refine wp_region_noPanic ?_
            refine wp_region_held_drew (S := fun V => Blk V wY.heap.size 54 [.int .u32 src, .int .u32 a, .int .u32 fl, .int .i64 (ttl - 1), .slice A10 (n + xn) c10] ∧ V.cell? ⟨w2.heap.size, 1, none⟩ = some (.slice (some ⟨b, o, none⟩) gn2 c3) ∧ V.cell? ⟨b, o + kk * 6, none⟩ = some (.int .i64 xi) ∧ V.cell? ⟨b, o + kk * 6 + 1, none⟩ = some (.int .u32 xa) ∧ V.cell? ⟨b, o + kk * 6 + 2, none⟩ = some (.int .u32 xr) ∧ V.cell? ⟨b, o + kk * 6 + 3, none⟩ = some (.int .i64 xw) ∧ V.cell? ⟨b, o + kk * 6 + 4, none⟩ = some (.slice xA xn xc) ∧ V.cell? ⟨b, o + kk * 6 + 5, none⟩ = some (.int .i64 xb)) (by kernel_rfl) (by rw [hwE]; exact HSE.out) (fun hHeld => ?_)
            rw [hwE] at hHeld ⊢
            clear hwE
            refine take_in (i := 0) _ (some 94) (by kernel_rfl) (by kernel_rfl) (by kernel_rfl) (by kernel_rfl) (fun _ _ _ h => h) (by rfl) (fun o ho w hSw => by cases ho; exact run_load_blk _ _ rfl _ rfl (hSw.1) _ Tryz.underlying54 rfl (by kernel_rfl)) hHeld ?_
            try simp only [Act.put, List.setIfInBounds_toArray, List.set_cons_zero, List.set_cons_succ]
            refine take_in (i := 1) _ (some 95) (by kernel_rfl) (by kernel_rfl) (by kernel_rfl) (by kernel_rfl) (fun _ _ _ h => h) (by rfl) (fun o ho w hSw => by cases ho; (try dsimp only at hSw); (try go_split_ands); go_simp; (try with_reducible rfl)) hHeld ?_
            try simp only [Act.put, List.setIfInBounds_toArray, List.set_cons_zero, List.set_cons_succ]
            refine take_in (i := 2) _ (some 96) (by kernel_rfl) (by kernel_rfl) (by kernel_rfl) (by kernel_rfl) (fun _ _ _ h => h) (by rfl) (fun o ho w hSw => by cases ho; (try dsimp only at hSw); (try go_split_ands); go_simp; (try with_reducible rfl)) hHeld ?_
            try simp only [Act.put, List.setIfInBounds_toArray, List.set_cons_zero, List.set_cons_succ]
            refine take_in (i := 3) _ (some 97) (by kernel_rfl) (by kernel_rfl) (by kernel_rfl) (by kernel_rfl) (fun _ _ _ h => h) (by rfl) (fun o ho w hSw => by cases ho; (try dsimp only at hSw); (try go_split_ands); go_simp; (try with_reducible rfl)) hHeld ?_
            try simp only [Act.put, List.setIfInBounds_toArray, List.set_cons_zero, List.set_cons_succ]
            refine take_in (i := 4) _ (some 98) (by kernel_rfl) (by kernel_rfl) (by kernel_rfl) (by kernel_rfl) (fun _ _ _ h => h) (by rfl) (fun o ho w hSw => by cases ho; (try dsimp only at hSw); (try go_split_ands); go_simp; (try with_reducible rfl)) hHeld ?_
            try simp only [Act.put, List.setIfInBounds_toArray, List.set_cons_zero, List.set_cons_succ]
            refine take_in (i := 5) _ (some 99) (by kernel_rfl) (by kernel_rfl) (by kernel_rfl) (by kernel_rfl) (fun _ _ _ h => h) (by rfl) (fun o ho w hSw => by cases ho; (try dsimp only at hSw); (try go_split_ands); go_simp; (try with_reducible rfl)) hHeld ?_
            try simp only [Act.put, List.setIfInBounds_toArray, List.set_cons_zero, List.set_cons_succ]
            refine wpAnyH_ready (rs := [6]) (by kernel_rfl) (by simp) ?_
            refine AllReadyH.cons (o := _) rfl (fun K hK => ?_) AllReadyH.nil
            obtain ⟨HQz, HPz1, HPz2, HBz, HKz⟩ := out_facts [.int .u32 src, .int .u32 a, .int .u32 fl, .int .i64 (ttl - 1), .slice A10 (n + xn) c10] [.int .i64 xi, .int .u32 xa, .int .u32 xr, .int .i64 xw, .slice xA xn xc, .int .i64 xb] HPE.out HQE.out HBE.out (Nat.le_refl _)
            have HSE1 := Lib.hid (HSS.out _ _ _ (Nat.le_refl _) (Save.row (w.heap.size + 1 + 1) wE [.int .u32 src, .int .u32 a, .int .u32 fl, .int .i64 (ttl - 1), .slice A10 (n + xn) c10].toArray) (by omega) (by omega) (by omega) HSE.out)
            have HSE2 := Lib.hid (HSS.out _ _ _ (by simp [World.setRow]) (Save.row (w.heap.size + 1 + 1 + 1) (wE.setRow (w.heap.size + 1 + 1) [.int .u32 src, .int .u32 a, .int .u32 fl, .int .i64 (ttl - 1), .slice A10 (n + xn) c10].toArray) [.int .i64 xi, .int .u32 xa, .int .u32 xr, .int .i64 xw, .slice xA xn xc, .int .i64 xb].toArray) (by omega) (by omega) (by omega) HSE1.out)
            refine step_store_blk [.int .u32 src, .int .u32 a, .int .u32 fl, .int .i64 (ttl - 1), .slice A10 (n + xn) c10] rfl rfl 54 _ _ rfl (w.heap.size + 1 + 1) rfl rfl HPE.out (by kernel_rfl) rfl (by kernel_rfl) ?_
            refine hK.out _ _ HSE1.out (fun hHeld => ?_)
            clear hK K
            try simp only [Act.put, List.setIfInBounds_toArray, List.set_cons_zero, List.set_cons_succ]
            refine wpAnyH_ready (rs := [7]) (by kernel_rfl) (by simp) ?_
            refine AllReadyH.cons (o := _) rfl (fun K hK => ?_) AllReadyH.nil
            refine step_store_blk [.int .i64 xi, .int .u32 xa, .int .u32 xr, .int .i64 xw, .slice xA xn xc, .int .i64 xb] rfl rfl 57 _ _ rfl (w.heap.size + 1 + 1 + 1) rfl rfl HQz.out (by kernel_rfl) rfl (by kernel_rfl) ?_
            refine hK.out _ _ HSE2.out (fun hHeld => ?_)
            clear hK K
            try simp only [Act.put, List.setIfInBounds_toArray, List.set_cons_zero, List.set_cons_succ]
            refine take_in (i := 8) _ (some 8) (by kernel_rfl) (by kernel_rfl) (by kernel_rfl) (by kernel_rfl) (fun _ _ _ h => h) (by rfl) (fun o ho w hSw => by cases ho; (try dsimp only at hSw); (try go_split_ands); go_simp; (try with_reducible rfl)) hHeld ?_
            try simp only [Act.put, List.setIfInBounds_toArray, List.set_cons_zero, List.set_cons_succ]
            refine wpAnyH_done (by kernel_rfl) ?_ _
            refine NoPanic.normal ?_
            go_wp2
            refine bodyPost_ret (results_cells3 rfl _ (w.heap.size + 1 + 1) (w.heap.size + 1 + 1 + 1) _ _ rfl rfl HPz1.out HPz2.out Tryz.underlying54 rfl (by kernel_rfl) Tryz.underlying57 rfl (by kernel_rfl)) rfl ?_
            rw [HF.out]
            exact HEND.out _ HBz.out HKz.out
          obtain ⟨b, o, x, rfl, hbB, hxk, d0⟩ := (HDW.out _ hB5.out).get hlt2
          have hbw : b < wr.heap.size := by have := hB5.out.size; omega
          have hx2 : ds.getD k2 false = x := by rw [List.getD_eq_getElem?_getD, hxk]; rfl
          cases x with
          | false =>
            have HDT2 : Hid (rs.map PV.dat = downTo act gn2 D ds (k2 + 1)) := by show _ = _; rw [downTo, if_neg (by rw [hx2]; simp)]; exact hDT.out
            clear hxk hx2
            go_wp2
            exact ⟨⟨k2 + 1, A3, c3, rs, by omega, by go_num, hK, hP, hQ, hG, hPS, HDT2, hIN, hB5⟩, by simp [intOf]; omega⟩
          | true =>
            have hev := hPS.out.even
            have hinv := HINV.out k2
            obtain ⟨Dk, hDk⟩ : ∃ Dk, downTo act gn2 D ds k2 = Dk := ⟨_, rfl⟩
            have HSH : ShortD Dk := by
              intro q hq
              rw [← hDk] at hq
              have h1 := downTo_ls (Q := fun l => l.length ≤ 1000) (act := act) (n := gn2) (ds := ds) (by simp) HDL2.out k2 q hq
              have h2 : q.ls.length ≤ 1000 := h1
              omega
            have HFE : Hid (failG act gn2 Dk k2 = downTo act gn2 D ds (k2 + 1)) := by
              show _ = _
              rw [downTo, if_pos hx2, hDk]
            have HGE : Hid (gErr act gn2 Dk = 0) := by
              show _ = _
              rw [← hDk]
              exact gErr_of_good hinv.good
            have HFC := Lib.hid (refFail_fr A3 gn2 c3 act k2 Dk wr ⟨rs, hPS.out, by rw [hDT.out, hDk]⟩ HSH (by omega))
            rw [HFE.out] at HFC
            have g0' := hG.out.cell 0
            have g1' := hG.out.cell 1
            simp only [List.getElem?_cons_zero, List.getElem?_cons_succ] at g0' g1'
            have hlg := hG.out.lt
            clear hxk hx2 HSH hev hinv
            go_wp2_with fail
            refine HFC.out.mono ?_
            rintro e w6 ⟨A4, c4, ss, rfl, hp6, hd6, hfr, hb6⟩
            have hin6 := hfr HGE.out
            obtain ⟨w7, hw7⟩ : ∃ w7, w6.setRow w2.heap.size #[.int .i64 act, .slice A4 gn2 c4] = w7 := ⟨_, rfl⟩
            have hsr : Save w2.heap.size w6 w7 := by rw [← hw7]; exact Save.row _ _ _
            have hs6 := hb6.size
            have hs7 := hsr.size
            have HG6 := Lib.hid (hG.out.keep hb6)
            have HG7 : Hid (Blk w7 w2.heap.size 47 [.int .i64 act, .slice A4 gn2 c4]) := by show Blk _ _ _ _; rw [← hw7]; exact HG6.out.row _
            have HK7 := Lib.hid ((hK.out.keep hb6).save hsr (by omega))
            have HP7 := Lib.hid ((hP.out.keep hb6).save hsr (by omega))
            have HQ7 := Lib.hid ((hQ.out.keep hb6).save hsr (by omega))
            have HB7 := Lib.hid ((below3 hB5.out hb6).trans (hsr.below (by omega) (below3 hB5.out hb6).size))
            have HI7 : Hid (In (fun q => q < B ∨ w2.heap.size < q) A4 gn2 ss) := hin6.mono fun q h => .inr (by have := h; omega)
            have HP8 := Lib.hid ((paths_kp hp6 (Keep.save (P := (· ≠ w2.heap.size)) hsr fun k h => h) (Nat.le_refl _) (hin6.mono fun q h => by show q ≠ _; omega)).more hs7)
            have HD7 := Lib.hid hd6
            clear hp6 hd6 hfr hb6 hin6 hsr HFC g0' g1'
            go_wp2_with (refine wpList_store_blk rfl 47 _ _ rfl w2.heap.size rfl rfl HG6.out (by kernel_rfl) rfl (by kernel_rfl) ?_)
            try rw [hw7]
            go_wp2
            exact ⟨⟨k2 + 1, A4, c4, ss, by omega, by go_num, HK7, HP7, HQ7, HG7, HP8, HD7, HI7, HB7⟩, by simp [intOf]; omega⟩
end Go.Proofs.YtplppbgkkfjknaaGreatDoor
