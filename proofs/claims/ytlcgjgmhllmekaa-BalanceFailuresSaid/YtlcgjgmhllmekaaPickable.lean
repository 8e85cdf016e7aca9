/- The law's function 'pickable' returns true where no active path uses the interface. -/
import Derived.Test.YtlcgjgmhllmekaaGroupsWalk
import Derived.Test.YtlcgjgmhllmekaaBalMath2
namespace Go.Proofs.Ytlcgjgmhllmekaa
open Go.RowKit

set_option maxRecDepth 100000 in
set_option maxHeartbeats 2000000 in
theorem pickable_at (A : Option Addr) (n c N a : Nat) (iface : Int) (ds : List PV) (w : World) (hx : GroupAt w N A n c ds) (hN : N ≤ w.heap.size) (hg : Good a n ds) (hc : ∀ j, j < a → clear1 ds iface (ds.getD j zeroP)) :
    Calls Try.prog 19 #[.agg #[.int .i64 a, .slice A n c], .int .i64 iface] w fun e w' => e = .returned (.bool true) ∧ Below w.heap.size w w' := by
  have HB : Hid (Below w.heap.size w (w.alloc (.cells #[.int .i64 a, .slice A n c] 24))) := (Below.refl w.heap.size w).alloc (Nat.le_refl _) _
  have G := Lib.hid hg
  have HC := Lib.hid hc
  have ha : a ≤ n := by have := G.out.a1; omega
  have hn64 := G.out.n64
  have hl := hx.len
  have hnc : n ≤ c := by obtain ⟨qs, h1, _⟩ := hx; exact h1.1.1.1
  have hac : (a : Int) ≤ (c : Int) := by omega
  have HX := Lib.hid hx
  have HL := Lib.hid hl
  clear hx hg hc hl
  go_enter Try.func19, Try.ntmps19
  go_wp2
  go_loopw [13] (fun i wr => ∃ k : Nat, k ≤ a ∧ i = .int .i64 k ∧ Hid (Below (w.heap.size + 1) (w.alloc (.cells #[.int .i64 a, .slice A n c] 24)) wr)) (fun i _ => a - (intOf i).toNat)
  case atStart => exact ⟨0, Nat.zero_le _, rfl, Below.refl _ _⟩
  case round =>
    obtain ⟨k, hk, rfl, hb⟩ := hrel
    have HBW : Hid (Below w.heap.size w wr) := HB.out.trans (hb.out.mono (Nat.le_succ _))
    by_cases hlt : k < a
    · have u1 : wr.cell? ⟨w.heap.size, 1, none⟩ = some (.slice A n c) := (hb.out.cell (p := ⟨w.heap.size, 1, none⟩) (Nat.lt_succ_self _)).trans (by go_simp)
      have hsz : w.heap.size + 1 ≤ wr.heap.size := by have := hb.out.size; simpa using this
      have hw1 : w.heap.size < wr.heap.size := by omega
      have HX2 : Hid (GroupAt wr N A n c ds) := HX.out.below (HBW.out.mono hN)
      obtain ⟨b1, o1, p, D, dk, rfl, hb1, hp, _, c0, c1, c2, c3, c4, c5⟩ := HX2.out.get (j := k) (by omega)
      have hpd : ds.getD k zeroP = p := getD_of hp
      have hcl := HC.out k hlt
      rw [hpd] at hcl
      have hz := pErr_zero (G.out.each k p (by omega) hp)
      obtain ⟨_, _, _, hbk⟩ := hz
      have hb1' : b1 < wr.heap.size := by omega
      have HN : Hid (∀ W, Below wr.heap.size wr W → Below (w.heap.size + 1) (w.alloc (.cells #[.int .i64 a, .slice (some ⟨b1, o1, none⟩) n c] 24)) W) := fun W h => hb.out.trans (h.mono hsz)
      have HA : Hid (∀ o, Below wr.heap.size wr (wr.alloc o)) := fun o => (Below.refl _ _).alloc (Nat.le_refl _) _
      obtain ⟨hc1, hc2⟩ := hcl
      have HBK : Hid (bk ds p = ds.getD p.backup.toNat zeroP) := rfl
      clear hp hpd
      have d0 : ∀ x : Bool, (p.iface == iface) = x → (x = true → p.weight ≤ 0) := fun x h hx => by
        rw [hx] at h
        have := beq_iff_eq.1 h
        omega
      by_cases hbn : p.backup = -1
      · have db : decide (p.backup ≥ 0) = false := by simp; omega
        have db' : decide (0 ≤ p.backup) = false := by simp; omega
        have db2 : p.backup < 0 := by omega
        clear hc1 hc2 hbk hbn
        by_cases he : p.iface = iface
        · have de : (p.iface == iface) = true := by simp [he]
          have hw0 := d0 _ de rfl
          have dw : decide (0 < p.weight) = false := by simp; omega
          clear d0 he
          go_wp2
          go_roundw
          case rel => exact ⟨k + 1, by omega, by go_num, HN.out _ (HA.out _)⟩
          case measure => simp [intOf]; omega
        · have de : (p.iface == iface) = false := by simp [he]
          clear d0 he
          go_wp2
          go_roundw
          case rel => exact ⟨k + 1, by omega, by go_num, HN.out _ (HA.out _)⟩
          case measure => simp [intOf]; omega
      · have hb0 : 0 ≤ p.backup := by omega
        have hbv := hc2 hb0
        obtain ⟨q, hq⟩ := Int.eq_ofNat_of_zero_le hb0
        have hqn : q < n := by omega
        obtain ⟨b2, o2, r, E, ek, hA2, hb2, hr, _, e0, _⟩ := HX2.out.get (j := q) hqn
        simp only [Option.some.injEq, Addr.mk.injEq] at hA2
        obtain ⟨rfl, rfl, _⟩ := hA2
        have hrd : ds.getD q zeroP = r := getD_of hr
        rw [HBK.out, hq, Int.toNat_natCast, hrd] at hbv
        rw [hq] at c5
        have dv : (r.iface == iface) = false := by simp [hbv]
        clear hc1 hc2 hbk hbn hb0 hr hrd hbv hq HBK
        by_cases he : p.iface = iface
        · have de : (p.iface == iface) = true := by simp [he]
          have hw0 := d0 _ de rfl
          have dw : decide (0 < p.weight) = false := by simp; omega
          clear d0 he
          go_wp2
          go_roundw
          case rel => exact ⟨k + 1, by omega, by go_num, HN.out _ (HA.out _)⟩
          case measure => simp [intOf]; omega
        · have de : (p.iface == iface) = false := by simp [he]
          clear d0 he
          go_wp2
          go_roundw
          case rel => exact ⟨k + 1, by omega, by go_num, HN.out _ (HA.out _)⟩
          case measure => simp [intOf]; omega
    · obtain rfl : k = a := by omega
      go_wp2
      go_ret
      exact ⟨rfl, HBW.out⟩
end Go.Proofs.Ytlcgjgmhllmekaa
