/- same; FieldTLVs. -/
import Derived.Test.YtonckpcbehobhaaDoorRefTlvs
import Derived.Test.YtonckpcbehobhaaDoorRefPutTlv
import Derived.Test.YtonckpcbehobhaaDoorRefGet
namespace Go.Proofs.YtonckpcbehobhaaDoor
open Go.RowKit

theorem TLs.get {w : World} {B n c : Nat} {A : Option Addr} {ts : List (Int × List Int)} (h : TLs w B A n c ts) {j : Nat} (hj : j < n) :
    ∃ (b o : Nat) (f : FV), A = some ⟨b, o, none⟩ ∧ b < B ∧ Hid (ts[j]? = some f.key) ∧ w.cell? ⟨b, o + j * 2, none⟩ = some (.int .i64 f.kind) ∧ w.cell? ⟨b, o + j * 2 + 1, none⟩ = some (.slice f.A f.n f.c) ∧ Hid (Ints w B .u8 f.A f.n f.c f.xs) := by
  obtain ⟨fs, h1, h2, h3⟩ := h
  obtain ⟨b, o, f, e, hb, hf, hc⟩ := h1.get FV.vals_len hj
  refine ⟨b, o, f, e, hb, ?_, hc 0 (by omega), hc 1 (by omega), h3 f (List.mem_of_getElem? hf)⟩
  rw [← h2]
  show (fs.map FV.key)[j]? = _
  rw [List.getElem?_map, hf]
  rfl
theorem TLs.len {w : World} {B n c : Nat} {A : Option Addr} {ts : List (Int × List Int)} (h : TLs w B A n c ts) : ts.length = n := by
  obtain ⟨fs, h1, h2, _⟩ := h
  rw [← h2, List.length_map]
  exact h1.2
set_option maxRecDepth 100000 in
set_option maxHeartbeats 4000000 in
theorem same_true (A B : Option Addr) (n c m d N M : Nat) (ts : List (Int × List Int)) (w : World) (hx : TLs w N A n c ts) (hy : TLs w M B m d ts) (hN : N ≤ w.heap.size) (hM : M ≤ w.heap.size) (hn : n ≤ 1000000000000) (hs : ∀ t ∈ ts, t.2.length ≤ 1000000000000) :
    Calls Tryd.prog 28 #[.slice A n c, .slice B m d] w fun e w' => e = .returned (.bool true) ∧ Below w.heap.size w w' := by
  obtain rfl : m = n := by rw [← hx.len, ← hy.len]
  have HX := Lib.hid hx
  have HY := Lib.hid hy
  have HS := Lib.hid hs
  clear hx hy hs
  go_enter Tryd.func28, Tryd.ntmps28
  go_wp2
  go_loopw [14] (fun i wr => ∃ k : Nat, k ≤ m ∧ i = .int .i64 k ∧ Hid (Below w.heap.size w wr)) (fun i _ => m - (intOf i).toNat)
  case atStart => exact ⟨0, Nat.zero_le _, rfl, Below.refl _ _⟩
  case round =>
    obtain ⟨k, hk, rfl, hb⟩ := hrel
    by_cases hlt : k < m
    · obtain ⟨b, o, f, rfl, hbN, hf, g0, g1, hi⟩ := (HX.out.below (hb.out.mono hN)).get hlt
      obtain ⟨b', o', f', rfl, hbM, hf', g0', g1', hi'⟩ := (HY.out.below (hb.out.mono hM)).get hlt
      obtain ⟨y, fA, fn, fc, xs⟩ := f
      obtain ⟨y', fA', fn', fc', xs'⟩ := f'
      have hkey : (y, xs) = (y', xs') := by
        have h1 := hf.out
        have h2 := hf'.out
        rw [h1] at h2
        exact Option.some.inj h2
      simp only [Prod.mk.injEq] at hkey
      obtain ⟨rfl, rfl⟩ := hkey
      have hxl : xs.length ≤ 1000000000000 := HS.out _ (List.mem_of_getElem? hf.out)
      dsimp only at g0 g1 g0' g1' hi hi'
      have hbw : b < wr.heap.size := by have := hb.out.size; omega
      have hbw' : b' < wr.heap.size := by have := hb.out.size; omega
      have HB1 := Lib.hid (hb.out.alloc hb.out.size (.cells #[.int .i64 y, .slice fA fn fc] 43))
      have hba := belowA wr (.cells #[.int .i64 y, .slice fA fn fc] 43)
      have HSB : Hid (∀ W, Below wr.heap.size wr W → Calls Tryd.prog 13 #[.slice fA fn fc, .slice fA' fn' fc'] W fun e w' => e = .returned (.bool true) ∧ W = w') := by
        intro W hW
        have h := sameBytes_any fA fA' fn fc fn' fc' _ _ xs xs W (hi.out.below (hW.mono (by have := hb.out.size; omega))) (hi'.out.below (hW.mono (by have := hb.out.size; omega))) (by have h1 : xs.length = fn := hi.out.len; omega) (by have h1 : xs.length = fn' := hi'.out.len; omega)
        rwa [decide_eq_true rfl] at h
      have HBA := Lib.hid hba
      have hyy : (y != y) = false := by simp
      clear hf hf' hi hi' hba hxl
      go_wp2
      go_region_held3 (fun w' => w'.cell? ⟨wr.heap.size, 0, none⟩ = some (.int .i64 y) ∧ w'.cell? ⟨wr.heap.size, 1, none⟩ = some (.slice fA fn fc) ∧ w'.cell? ⟨b', o' + k * 2, none⟩ = some (.int .i64 y) ∧ w'.cell? ⟨b', o' + k * 2 + 1, none⟩ = some (.slice fA' fn' fc') ∧ Hid (Below wr.heap.size wr w'))
        (first | exact ⟨by go_simp, by go_simp, by go_simp, by go_simp, HBA.out.drew⟩)
        (first
          | (go_at_call 13; (with_reducible refine (HSB.out _ HBA.out.drew).mono ?_); rintro e w1 ⟨rfl, rfl⟩))
      go_wp2
      go_roundw
      case rel => exact ⟨k + 1, by omega, by go_num, HB1.out.drew⟩
      case measure => simp [intOf]; omega
    · obtain rfl : k = m := by omega
      go_wp2
      go_ret
      exact ⟨rfl, hb.out⟩
end Go.Proofs.YtonckpcbehobhaaDoor
