/- The laws' own functions: the group 'pair', and the comparison of two groups. -/
import Derived.Test.YtlcgjgmhllmekaaRefFail2
namespace Go.Proofs.Ytlcgjgmhllmekaa
open Go.RowKit

def pairDs : List PV := [⟨0, 0, 0, 1, none, 0, 0, [], 2⟩, ⟨1, 0, 0, 1, none, 0, 0, [], -1⟩, ⟨2, 0, 0, 1, none, 0, 0, [], -1⟩]

theorem pair_any (w : World) : Calls Try.prog 25 #[] w (GivesG 2 3 pairDs w) := by
  go_enter Try.func25, Try.ntmps25
  go_wp2
  have hb : Below w.heap.size w ((w.alloc (.cells #[.int .i64 2, .slice (some ⟨w.heap.size + 1, 0, none⟩) 3 3] 24)).alloc (.cells (pairDs.flatMap PV.vals).toArray 38)) :=
    ((Below.refl w.heap.size w).alloc (Nat.le_refl _) _).alloc (by simp) _
  have hr : ((w.alloc (.cells #[.int .i64 2, .slice (some ⟨w.heap.size + 1, 0, none⟩) 3 3] 24)).alloc (.cells (pairDs.flatMap PV.vals).toArray 38)).ownsRow 0 38 6 (.slice (some ⟨(w.alloc (.cells #[.int .i64 2, .slice (some ⟨w.heap.size + 1, 0, none⟩) 3 3] 24)).heap.size, 0, none⟩) 3 3) 3 (pairDs.flatMap PV.vals) :=
    World.ownsRow_lit _ (pairDs.flatMap PV.vals).toArray 3 (Nat.zero_le _) (by simp [maxLen]) rfl
  rw [show (w.alloc (.cells #[.int .i64 2, .slice (some ⟨w.heap.size + 1, 0, none⟩) 3 3] 24)).heap.size = w.heap.size + 1 by simp] at hr
  refine bodyPost_ret (v := .agg #[.int .i64 2, .slice (some ⟨w.heap.size + 1, 0, none⟩) 3 3]) (by simp [results, Try.results25, go_sem]) rfl ?_
  refine ⟨some ⟨w.heap.size + 1, 0, none⟩, 3, rfl, ⟨pairDs, ⟨⟨Cells.of_own hr, rfl⟩, fun p hp => ?_⟩, rfl⟩, hb⟩
  simp only [pairDs, List.mem_cons, List.not_mem_nil, or_false] at hp
  rcases hp with rfl | rfl | rfl <;> exact Ints.nil _ _ _

theorem dat_eq {p q : PV} (h0 : p.iface = q.iface) (h1 : p.addr = q.addr) (h2 : p.router = q.router) (h3 : p.weight = q.weight) (h4 : p.ls = q.ls) (h5 : p.backup = q.backup) : p.dat = q.dat := by
  unfold PV.dat
  rw [h0, h1, h2, h3, h4, h5]
theorem idem_get {ds : List PV} (h : ds.map PV.dat = ds) {k : Nat} {p : PV} (hp : ds[k]? = some p) : PV.dat p = p := by
  have h2 : (ds.map PV.dat)[k]? = some p := by rw [h]; exact hp
  rw [List.getElem?_map, hp] at h2
  simpa using h2
/-- whether the call says that two groups are the same -/
def SaysSame (P : Prop) (w : World) (e : Ending) (w' : World) : Prop := ∃ b, e = .returned (.bool b) ∧ (b = true ↔ P) ∧ Below w.heap.size w w'

set_option maxRecDepth 100000 in
set_option maxHeartbeats 2000000 in
theorem same_at (A B : Option Addr) (n m c d N M : Nat) (act act' : Int) (ds es : List PV) (w : World) (hx : GroupAt w N A n c ds) (hy : GroupAt w M B m d es) (hN : N ≤ w.heap.size) (hM : M ≤ w.heap.size) (hs : ShortD ds) (ht : ShortD es) (hn : n ≤ 1000) (hm : m ≤ 1000) :
    Calls Try.prog 14 #[.agg #[.int .i64 act, .slice A n c], .agg #[.int .i64 act', .slice B m d]] w (SaysSame (act = act' ∧ ds = es) w) := by
  have HB := Lib.hid (((Below.refl w.heap.size w).alloc (Nat.le_refl _) (.cells #[.int .i64 act, .slice A n c] 24)).alloc (by simp) (.cells #[.int .i64 act', .slice B m d] 24))
  have hl1 := hx.len
  have hl2 := hy.len
  by_cases ha : act = act'
  · subst ha
    have d0 : (act != act) = false := by simp
    by_cases hnm : n = m
    · subst hnm
      have HL := Lib.hid (show ds.length = n ∧ es.length = n from ⟨hl1, hl2⟩)
      have HX := Lib.hid hx
      have HY := Lib.hid hy
      clear hx hy hl1 hl2
      go_enter Try.func14, Try.ntmps14
      go_wp2
      go_loopw [25] (fun i wr => ∃ k : Nat, k ≤ n ∧ i = .int .i64 k ∧ Hid (ds.take k = es.take k) ∧ Hid (Below (w.heap.size + 2) ((w.alloc (.cells #[.int .i64 act, .slice A n c] 24)).alloc (.cells #[.int .i64 act, .slice B n d] 24)) wr)) (fun i _ => n - (intOf i).toNat)
      case atStart => exact ⟨0, Nat.zero_le _, rfl, rfl, Below.refl _ _⟩
      case round =>
        obtain ⟨k, hk, rfl, hd, hb⟩ := hrel
        have u0 : wr.cell? ⟨w.heap.size, 0, none⟩ = some (.int .i64 act) := (hb.out.cell (p := ⟨w.heap.size, 0, none⟩) (by simp)).trans (by go_simp)
        have u1 : wr.cell? ⟨w.heap.size, 1, none⟩ = some (.slice A n c) := (hb.out.cell (p := ⟨w.heap.size, 1, none⟩) (by simp)).trans (by go_simp)
        have v1 : wr.cell? ⟨w.heap.size + 1, 1, none⟩ = some (.slice B n d) := (hb.out.cell (p := ⟨w.heap.size + 1, 1, none⟩) (by simp)).trans (by go_simp)
        have hsz : w.heap.size + 2 ≤ wr.heap.size := by have := hb.out.size; simpa using this
        have HBW : Hid (Below w.heap.size w wr) := HB.out.trans (hb.out.mono (by omega))
        have hw1 : w.heap.size < wr.heap.size := by omega
        have hw2 : w.heap.size + 1 < wr.heap.size := by omega
        by_cases hlt : k < n
        · obtain ⟨b1, o1, p, D, dk, rfl, hb1, hp, hi1, c0, c1, c2, c3, c4, c5⟩ := (HX.out.below (HBW.out.mono hN)).get hlt
          obtain ⟨b2, o2, q, E, ek, rfl, hb2, hq, hi2, e0, e1, e2, e3, e4, e5⟩ := (HY.out.below (HBW.out.mono hM)).get hlt
          have HPD : Hid (PV.dat p = p) := idem_get HX.out.idem hp
          have HQD : Hid (PV.dat q = q) := idem_get HY.out.idem hq
          have HP := Lib.hid hp
          have HQ := Lib.hid hq
          have HI1 := Lib.hid hi1
          have HI2 := Lib.hid hi2
          have hpl : p.ls.length ≤ 17592186044416 := hs p (List.mem_of_getElem? hp)
          have hql : q.ls.length ≤ 17592186044416 := ht q (List.mem_of_getElem? hq)
          have hb1' : b1 < wr.heap.size := by omega
          have hb2' : b2 < wr.heap.size := by omega
          have HNE : Hid (p ≠ q → ¬ (ds = es)) := fun hne h => by
            have h1 := HP.out
            rw [h, HQ.out] at h1
            exact hne (Option.some.inj h1).symm
          have HBF : Hid (Below w.heap.size w ((wr.alloc (.cells #[.int .i64 p.iface, .int .u32 p.addr, .int .u32 p.router, .int .i64 p.weight, .slice D p.ls.length dk, .int .i64 p.backup] 38)).alloc (.cells #[.int .i64 q.iface, .int .u32 q.addr, .int .u32 q.router, .int .i64 q.weight, .slice E q.ls.length ek, .int .i64 q.backup] 38))) :=
            (HBW.out.alloc (by omega) _).alloc (by simp; omega) _
          have HBG : Hid (Below wr.heap.size wr ((wr.alloc (.cells #[.int .i64 p.iface, .int .u32 p.addr, .int .u32 p.router, .int .i64 p.weight, .slice D p.ls.length dk, .int .i64 p.backup] 38)).alloc (.cells #[.int .i64 q.iface, .int .u32 q.addr, .int .u32 q.router, .int .i64 q.weight, .slice E q.ls.length ek, .int .i64 q.backup] 38))) :=
            ((Below.refl _ _).alloc (Nat.le_refl _) _).alloc (by simp) _
          clear hp hq hi1 hi2
          by_cases h0 : p.iface = q.iface
          case neg =>
            have d0 : (p.iface != q.iface) = true := by simp [h0]
            have HF : Hid (¬ (ds = es)) := HNE.out fun h => h0 (by rw [h])
            clear h0 HX HY
            go_wp2
            go_ret
            exact ⟨false, rfl, ⟨fun h => (by cases h), by intro h; first | exact (HF.out h).elim | exact (HF.out h.2).elim⟩, HBF.out⟩
          have d0 : (p.iface != q.iface) = false := by simp [h0]
          have H0 := Lib.hid h0
          clear h0
          by_cases h1 : p.addr = q.addr
          case neg =>
            have d1 : (p.addr != q.addr) = true := by simp [h1]
            have HF : Hid (¬ (ds = es)) := HNE.out fun h => h1 (by rw [h])
            clear h1 HX HY
            go_wp2
            go_ret
            exact ⟨false, rfl, ⟨fun h => (by cases h), by intro h; first | exact (HF.out h).elim | exact (HF.out h.2).elim⟩, HBF.out⟩
          have d1 : (p.addr != q.addr) = false := by simp [h1]
          have H1 := Lib.hid h1
          clear h1
          by_cases h2 : p.router = q.router
          case neg =>
            have d2 : (p.router != q.router) = true := by simp [h2]
            have HF : Hid (¬ (ds = es)) := HNE.out fun h => h2 (by rw [h])
            clear h2 HX HY
            go_wp2
            go_ret
            exact ⟨false, rfl, ⟨fun h => (by cases h), by intro h; first | exact (HF.out h).elim | exact (HF.out h.2).elim⟩, HBF.out⟩
          have d2 : (p.router != q.router) = false := by simp [h2]
          have H2 := Lib.hid h2
          clear h2
          by_cases h3 : p.weight = q.weight
          case neg =>
            have d3 : (p.weight != q.weight) = true := by simp [h3]
            have HF : Hid (¬ (ds = es)) := HNE.out fun h => h3 (by rw [h])
            clear h3 HX HY
            go_wp2
            go_ret
            exact ⟨false, rfl, ⟨fun h => (by cases h), by intro h; first | exact (HF.out h).elim | exact (HF.out h.2).elim⟩, HBF.out⟩
          have d3 : (p.weight != q.weight) = false := by simp [h3]
          have H3 := Lib.hid h3
          clear h3
          by_cases h5 : p.backup = q.backup
          case neg =>
            have d5 : (p.backup != q.backup) = true := by simp [h5]
            have HF : Hid (¬ (ds = es)) := HNE.out fun h => h5 (by rw [h])
            clear h5 HX HY
            go_wp2
            go_ret
            exact ⟨false, rfl, ⟨fun h => (by cases h), by intro h; first | exact (HF.out h).elim | exact (HF.out h.2).elim⟩, HBF.out⟩
          have d5 : (p.backup != q.backup) = false := by simp [h5]
          have H5 := Lib.hid h5
          clear h5
          clear HX HY
          go_wp2_with fail
          refine (sameInts_any D E p.ls.length dk q.ls.length ek _ _ p.ls q.ls _ (HI1.out.below (HBG.out.mono (by omega))) (HI2.out.below (HBG.out.mono (by omega))) hpl hql).mono ?_
          rintro e w3 ⟨rfl, rfl⟩
          by_cases hls : p.ls = q.ls
          · have hpq : p = q := by rw [← HPD.out, ← HQD.out]; exact dat_eq H0.out H1.out H2.out H3.out hls H5.out
            have HD : Hid (ds.take (k + 1) = es.take (k + 1)) := by show _ = _; rw [List.take_add_one, List.take_add_one, hd.out, HP.out, HQ.out, hpq]
            have HB9 : Hid (Below (w.heap.size + 2) ((w.alloc (.cells #[.int .i64 act, .slice (some ⟨b1, o1, none⟩) n c] 24)).alloc (.cells #[.int .i64 act, .slice (some ⟨b2, o2, none⟩) n d] 24)) ((wr.alloc (.cells #[.int .i64 p.iface, .int .u32 p.addr, .int .u32 p.router, .int .i64 p.weight, .slice D p.ls.length dk, .int .i64 p.backup] 38)).alloc (.cells #[.int .i64 q.iface, .int .u32 q.addr, .int .u32 q.router, .int .i64 q.weight, .slice E q.ls.length ek, .int .i64 q.backup] 38))) := hb.out.trans (HBG.out.mono hsz)
            have dl : decide (p.ls = q.ls) = true := decide_eq_true hls
            rw [dl]
            clear hls hpq dl HBG HBF
            go_wp2
            go_roundw
            case rel => exact ⟨k + 1, by omega, by go_num, HD, HB9⟩
            case measure => simp [intOf]; omega
          · have HF : Hid (¬ (ds = es)) := HNE.out fun h => hls (by rw [h])
            have dl : decide (p.ls = q.ls) = false := decide_eq_false hls
            rw [dl]
            clear hls dl
            go_wp2
            go_ret
            exact ⟨false, rfl, ⟨fun h => (by cases h), by intro h; first | exact (HF.out h).elim | exact (HF.out h.2).elim⟩, HBF.out⟩
        · obtain rfl : k = n := by omega
          have HF : Hid (ds = es) := by
            have := hd.out
            rwa [List.take_of_length_le (by have := HL.out.1; omega), List.take_of_length_le (by have := HL.out.2; omega)] at this
          clear HX HY
          go_wp2
          go_ret
          exact ⟨true, rfl, ⟨by intro _; first | exact HF.out | exact ⟨trivial, HF.out⟩, fun _ => rfl⟩, HBW.out⟩
    · have d1 : ((n : Int) != (m : Int)) = true := by simp; omega
      have HF : Hid (¬ (ds = es)) := fun h => hnm (by rw [← hl1, ← hl2, h])
      clear hx hy hl1 hl2 hnm
      go_enter Try.func14, Try.ntmps14
      go_wp2
      go_ret
      exact ⟨false, rfl, ⟨fun h => (by cases h), by intro h; first | exact (HF.out h).elim | exact (HF.out h.2).elim⟩, HB.out⟩
  · have d0 : (act != act') = true := by simp [ha]
    have HF : Hid (¬ (act = act' ∧ ds = es)) := fun h => ha h.1
    clear hx hy hl1 hl2 ha
    go_enter Try.func14, Try.ntmps14
    go_wp2
    go_ret
    exact ⟨false, rfl, ⟨fun h => (by cases h), by intro h; first | exact (HF.out h).elim | exact (HF.out h.2).elim⟩, HB.out⟩
end Go.Proofs.Ytlcgjgmhllmekaa
