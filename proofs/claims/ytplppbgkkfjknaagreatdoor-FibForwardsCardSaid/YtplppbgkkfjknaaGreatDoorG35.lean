/- The document's Forward: the walk (printed by gen_rpl.py from RFw.base). The document's comparison of packets: a packet is equal to itself. -/
import Derived.Test.YtplppbgkkfjknaaGreatDoorG23
import Derived.Test.YtplppbgkkfjknaaGreatDoorG34
import Derived.Test.YtplppbgkkfjknaaGreatDoorG28
import Derived.Test.YtplppbgkkfjknaaGreatDoorG22
namespace Go.Proofs.YtplppbgkkfjknaaGreatDoor
open Go.RowKit

set_option linter.unusedVariables false
set_option linter.unusedSimpArgs false
def RwI (w : World) (fv : List Value) (es : List Ent) (gs : List GE) (ls : List Int) (bs : List EV) (ns : List NH) (ds : List Bool) (R : PD × PV × Int) (W : World) : Prop :=
  ∃ (f : Nat) (q : PD) (A : Option Addr) (n c : Nat), Hid (mu q < f ∧ fwdF es gs ls bs ns ds f q = R) ∧ Hid (Blk W w.heap.size 35 fv) ∧ Hid (Blk W (w.heap.size + 1) 54 [.int .u32 q.src, .int .u32 q.dst, .int .u32 q.flow, .int .i64 q.ttl, .slice A n c]) ∧
    Hid (Blk W (w.heap.size + 1 + 1) 54 [.int .u32 0, .int .u32 0, .int .u32 0, .int .i64 0, .slice none 0 0]) ∧ Hid (Blk W (w.heap.size + 1 + 1 + 1) 57 [.int .i64 0, .int .u32 0, .int .u32 0, .int .i64 0, .slice none 0 0, .int .i64 0]) ∧ Hid (Ints W W.heap.size .i64 A n c q.ls ∧ (0 < n → ∀ ad, A = some ad → ad.block ≠ w.heap.size + 1)) ∧
    Hid ((∀ x ∈ q.ls, -9223372036854775808 ≤ x ∧ x ≤ 9223372036854775807) ∧ (0 ≤ q.src ∧ q.src < 4294967296) ∧ (0 ≤ q.dst ∧ q.dst < 4294967296) ∧ (0 ≤ q.flow ∧ q.flow < 4294967296) ∧ (-9223372036854775808 ≤ q.ttl ∧ q.ttl ≤ 9223372036854775807) ∧ n ≤ 1000000) ∧ Hid (Below w.heap.size w W)
set_option maxHeartbeats 1000000 in
theorem refDown52_any (A : Option Addr) (n c B : Nat) (ds : List Bool) (i : Int) (w : World) (hx : Bls w B A n c ds) (hB : B ≤ w.heap.size) : Calls Tryz.prog 22 #[.slice A n c, .int .i64 i] w fun e w' => e = .returned (.bool (downB ds i)) ∧ w = w' := by
  have hl : ds.length = n := hx.2
  by_cases h0 : i < 0
  · have HF : Hid (downB ds i = false) := by show _ = _; unfold downB; rw [if_neg (by omega)]
    have d0 : decide (i ≥ 0) = false := decide_eq_false (by omega)
    have d0' : decide (0 ≤ i) = false := decide_eq_false (by omega)
    clear hx hl h0
    go_enter Tryz.func22, Tryz.ntmps22
    go_wp2
    go_ret
    exact ⟨by rw [HF.out]; rfl, rfl⟩
  obtain ⟨k, rfl⟩ : ∃ k : Nat, i = k := ⟨i.toNat, by omega⟩
  by_cases hk : k < n
  · obtain ⟨b, o, x, rfl, hb, hxk, c0⟩ := hx.get hk
    have hbw : b < w.heap.size := by omega
    have HF : Hid (downB ds k = x) := by
      show _ = _
      unfold downB
      rw [if_pos (by omega), Int.toNat_natCast, List.getD_eq_getElem?_getD, hxk]
      rfl
    clear hx hl h0 hxk
    go_enter Tryz.func22, Tryz.ntmps22
    go_wp2
    all_goals
      go_ret
      exact ⟨by rw [HF.out]; first | rfl | simp, rfl⟩
  · have HF : Hid (downB ds k = false) := by
      show _ = _
      unfold downB
      rw [if_pos (by omega), Int.toNat_natCast, List.getD_eq_getElem?_getD, List.getElem?_eq_none (by omega)]
      rfl
    clear hx hl h0
    go_enter Tryz.func22, Tryz.ntmps22
    go_wp2
    go_ret
    exact ⟨by rw [HF.out]; rfl, rfl⟩
def RnI (w4 : World) (nn : Nat) (r : Int) (ds : List Bool) (ns : List NH) (iv : Value) (W : World) : Prop :=
  ∃ k : Nat, k ≤ nn ∧ iv = .int .i64 k ∧ Hid (∀ j, j < k → ∀ x, ns[j]? = some x → upTo r ds x = false) ∧ Hid (Below w4.heap.size w4 W)
set_option maxRecDepth 100000 in
set_option maxHeartbeats 8000000 in
theorem refForward52_any (tA gA lA bA nA : Option Addr) (tn tc gn gc ln lc bn bc nn nc : Nat) (dA A : Option Addr) (dn dc n c B : Nat) (es : List Ent) (gs : List GE) (ls : List Int) (bs : List EV) (ns : List NH) (p : PD) (ds : List Bool) (w : World) (hx : FibAt w B tA gA lA bA nA tn tc gn gc ln lc bn bc nn nc es gs ls bs ns) (hd : Bls w B dA dn dc ds) (hp : Ints w B .i64 A n c p.ls) (hB : B ≤ w.heap.size)
    (hdn : dn ≤ 140737488355328) (hs : ∀ g ∈ gs, g.n ≤ 1000 ∧ ∀ q ∈ g.ps, q.ls.length ≤ 1000) (hn : n ≤ 1000000) (hz : rowsErr gs.length es = 0) (hgd : GoodGs gs) (hpw : ∀ x ∈ p.ls, -9223372036854775808 ≤ x ∧ x ≤ 9223372036854775807) (h0 : 0 ≤ p.src ∧ p.src < 4294967296) (h1 : 0 ≤ p.dst ∧ p.dst < 4294967296) (h2 : 0 ≤ p.flow ∧ p.flow < 4294967296) (ht1 : -9223372036854775808 ≤ p.ttl ∧ p.ttl ≤ 9223372036854775807) :
    Calls Tryz.prog 19 #[.agg #[.slice tA tn tc, .slice gA gn gc, .slice lA ln lc, .slice bA bn bc, .slice nA nn nc], .agg #[.int .u32 p.src, .int .u32 p.dst, .int .u32 p.flow, .int .i64 p.ttl, .slice A n c], .slice dA dn dc] w (GivesOutB B (forwardR es gs ls bs ns ds p) w) := by
  obtain ⟨w1, hw1⟩ : ∃ w1, (((w.alloc (.cells #[.slice tA tn tc, .slice gA gn gc, .slice lA ln lc, .slice bA bn bc, .slice nA nn nc] 35)).alloc (.cells #[.int .u32 p.src, .int .u32 p.dst, .int .u32 p.flow, .int .i64 p.ttl, .slice A n c] 54)).alloc (.cells #[.int .u32 0, .int .u32 0, .int .u32 0, .int .i64 0, .slice none 0 0] 54)).alloc (.cells #[.int .i64 0, .int .u32 0, .int .u32 0, .int .i64 0, .slice none 0 0, .int .i64 0] 57) = w1 := ⟨_, rfl⟩
  obtain ⟨k0, k1, k2, k3, k4⟩ := four_blks w 35 54 54 57 #[.slice tA tn tc, .slice gA gn gc, .slice lA ln lc, .slice bA bn bc, .slice nA nn nc] #[.int .u32 p.src, .int .u32 p.dst, .int .u32 p.flow, .int .i64 p.ttl, .slice A n c] #[.int .u32 0, .int .u32 0, .int .u32 0, .int .i64 0, .slice none 0 0] #[.int .i64 0, .int .u32 0, .int .u32 0, .int .i64 0, .slice none 0 0, .int .i64 0]
  rw [hw1] at k0 k1 k2 k3 k4
  have HXW : Hid (∀ W, Below w.heap.size w W → FibAt W W.heap.size tA gA lA bA nA tn tc gn gc ln lc bn bc nn nc es gs ls bs ns) := fun W h => (hx.below (h.mono hB)).more (by have := h.size; omega)
  have HDW : Hid (∀ W, Below w.heap.size w W → Bls W W.heap.size dA dn dc ds) := fun W h => Recs.more (Recs.below hd (h.mono hB)) (by have := h.size; omega)
  have HXB : Hid (∀ W, Below w.heap.size w W → FibAt W B tA gA lA bA nA tn tc gn gc ln lc bn bc nn nc es gs ls bs ns) := fun W h => hx.below (h.mono hB)
  have HDB : Hid (∀ W, Below w.heap.size w W → Bls W B dA dn dc ds) := fun W h => Recs.below hd (h.mono hB)
  have HZZ := Lib.hid hz
  have HGD := Lib.hid hgd
  have HS := Lib.hid hs
  have hpb := hp.below (k4.mono hB)
  have hk4s := k4.size
  obtain ⟨Rz, hRz⟩ : ∃ Rz, forwardR es gs ls bs ns ds p = Rz := ⟨_, rfl⟩
  have HI0 : Hid (RwI w [.slice tA tn tc, .slice gA gn gc, .slice lA ln lc, .slice bA bn bc, .slice nA nn nc] es gs ls bs ns ds Rz w1) :=
    ⟨mu p + 1, p, A, n, c, Lib.hid ⟨Nat.lt_succ_self _, hRz⟩, k0, k1, k2, k3, Lib.hid ⟨hpb.more (by omega), fun h0 ad e => by
      obtain ⟨b, o, e2, hbb, _⟩ := hp.2.2.2 (by omega)
      rw [e] at e2
      injection e2 with e2
      subst e2
      show b ≠ _
      omega⟩, Lib.hid ⟨hpw, h0, h1, h2, ht1, hn⟩, k4⟩
  rw [hRz]
  clear k0 k1 k2 k3 k4 hx hd hp hs hz hgd hpb hpw h0 h1 h2 ht1 hRz hk4s hn
  go_enter Tryz.func19, Tryz.ntmps19
  go_wp2
  go_loopw [] (fun wr => RwI w [.slice tA tn tc, .slice gA gn gc, .slice lA ln lc, .slice bA bn bc, .slice nA nn nc] es gs ls bs ns ds Rz wr) (fun wr => muW (w.heap.size + 1) wr)
  case atStart => exact HI0.out
  case round =>
    obtain ⟨f, q, A2, n2, c2, hf, hF, hK, hP, hQ, hL, hW, hB2⟩ := hrel
    clear HI0 hw1
    obtain ⟨wq, rfl⟩ : ∃ wq, wq = wr := ⟨_, rfl⟩
    obtain ⟨qs, qd, qf, qt, ql⟩ := q
    dsimp only at hF hK hL hW
    obtain ⟨hwl, hq0, hq1, hq2, hq3, hn2⟩ := hW.out
    have hlen : ql.length = n2 := hL.out.1.len
    have f0 := hF.out.cell 0
    have f1 := hF.out.cell 1
    have f2 := hF.out.cell 2
    have f3 := hF.out.cell 3
    have f4 := hF.out.cell 4
    have k0 := hK.out.cell 0
    have k1 := hK.out.cell 1
    have k2 := hK.out.cell 2
    have k3 := hK.out.cell 3
    have k4 := hK.out.cell 4
    simp only [List.getElem?_cons_zero, List.getElem?_cons_succ] at f0 f1 f2 f3 f4 k0 k1 k2 k3 k4
    have hlF := hF.out.lt
    have hlK := hK.out.lt
    have hlQ := hQ.out.lt
    have hmu := muW_of k3 k4
    by_cases hz : n2 = 0
    · subst hz
      obtain ⟨f, rfl⟩ : ∃ g, f = g + 1 := ⟨f - 1, by have := hf.out.1; omega⟩
      have HR : Hid (addrR es gs ls ⟨qs, qd, qf, qt, ql⟩ ds = Rz) := by
        show _ = _
        rw [← hf.out.2, fwdF, if_pos hlen]
      have HX := HXW.out _ hB2.out
      have HXb := HXB.out _ hB2.out
      have HC := Lib.hid (refPlain_any tA gA lA bA nA tn tc gn gc ln lc bn bc nn nc dA A2 dn dc 0 c2 B es gs ls ⟨qs, qd, qf, qt, ql⟩ ds wq HXb.t HXb.g HXb.l (HDB.out _ hB2.out) hL.out.1 (by have := hB2.out.size; omega) HX.tn HX.ln hdn HS.out (by omega) hq0 hq1 hq2 hq3 HZZ.out HGD.out)
      rw [HR.out] at HC
      dsimp only at HC
      clear HX HXb hmu hlen hwl HR hf hL hW
      go_wp2_with fail
      refine HC.out.mono ?_
      rintro e w3 ⟨A6, n6, c6, A7, n7, c7, rfl, hi6, hi7, ho6, ho7, hb3⟩
      have HP3 := Lib.hid (hP.out.keep hb3)
      have HQ3 := Lib.hid (hQ.out.keep hb3)
      have HB3 := Lib.hid (below3 hB2.out hb3)
      obtain ⟨HQz, HPz1, HPz2, HBz, HKz⟩ := out_facts [.int .u32 Rz.1.src, .int .u32 Rz.1.dst, .int .u32 Rz.1.flow, .int .i64 Rz.1.ttl, .slice A6 n6 c6] [.int .i64 Rz.2.1.iface, .int .u32 Rz.2.1.addr, .int .u32 Rz.2.1.router, .int .i64 Rz.2.1.weight, .slice A7 n7 c7, .int .i64 Rz.2.1.backup] HP3.out HQ3.out HB3.out (Nat.le_refl _)
      have hsB := hB2.out.size
      have HEND : Hid (∀ W, Below w.heap.size w W → Keep (fun q => q ≠ w.heap.size + 1 + 1 ∧ q ≠ w.heap.size + 1 + 1 + 1) w3 W → GivesOutB B Rz w (.returned (.tuple #[.agg #[.int .u32 Rz.1.src, .int .u32 Rz.1.dst, .int .u32 Rz.1.flow, .int .i64 Rz.1.ttl, .slice A6 n6 c6], .agg #[.int .i64 Rz.2.1.iface, .int .u32 Rz.2.1.addr, .int .u32 Rz.2.1.router, .int .i64 Rz.2.1.weight, .slice A7 n7 c7, .int .i64 Rz.2.1.backup], .int .i64 Rz.2.2])) W) := by
        intro W hW2 hkW
        have hsW := hkW.size
        refine ⟨A6, n6, c6, A7, n7, c7, rfl, (ints_kp hi6 hkW (Nat.le_refl _) (fun h0 ad e => by have := ho6 h0 ad e; omega)).more hsW, (ints_kp hi7 hkW (Nat.le_refl _) (fun h0 ad e => by have := ho7 h0 ad e; omega)).more hsW, fun h0 ad e => by have := ho6 h0 ad e; omega, fun h0 ad e => by have := ho7 h0 ad e; omega, hW2⟩
      clear hi6 hi7 ho6 ho7 hb3 HC
      go_wp2_with (first | (refine wpList_store_blk (cs := [.int .u32 Rz.1.src, .int .u32 Rz.1.dst, .int .u32 Rz.1.flow, .int .i64 Rz.1.ttl, .slice A6 n6 c6]) rfl 54 _ _ rfl (w.heap.size + 1 + 1) rfl rfl HP3.out (by kernel_rfl) rfl (by kernel_rfl) ?_) | (refine wpList_store_blk (cs := [.int .i64 Rz.2.1.iface, .int .u32 Rz.2.1.addr, .int .u32 Rz.2.1.router, .int .i64 Rz.2.1.weight, .slice A7 n7 c7, .int .i64 Rz.2.1.backup]) rfl 57 _ _ rfl (w.heap.size + 1 + 1 + 1) rfl rfl HQz.out (by kernel_rfl) rfl (by kernel_rfl) ?_))
      refine bodyPost_ret (results_cells3 rfl _ (w.heap.size + 1 + 1) (w.heap.size + 1 + 1 + 1) _ _ rfl rfl HPz1.out HPz2.out Tryz.underlying54 rfl (by kernel_rfl) Tryz.underlying57 rfl (by kernel_rfl)) rfl ?_
      exact HEND.out _ HBz.out HKz.out
    · obtain ⟨f, rfl⟩ : ∃ g, f = g + 1 := ⟨f - 1, by have := hf.out.1; omega⟩
      have HX := HXW.out _ hB2.out
      have HC := Lib.hid (refForward_any bA A2 bn bc n2 c2 bs ⟨qs, qd, qf, qt, ql⟩ wq HX.b HX.bp HX.bn hL.out.1 (by omega) hq2 hq3)
      obtain ⟨Y, hY⟩ : ∃ Y, fwd bs ⟨qs, qd, qf, qt, ql⟩ = Y := ⟨_, rfl⟩
      have HKP : Hid (Y.2.2 = 0 → Kept ⟨qs, qd, qf, qt, ql⟩ Y.1 Y.2.1) := by
        intro h
        rw [← hY] at h ⊢
        exact fwd_kept h
      have HRE : Hid ((if Y.2.2 = 23 then (zeroPD, zeroP, (3 : Int)) else if Y.2.2 ≠ 0 then (zeroPD, zeroP, 2) else if Y.2.1 = 0 then fwdF es gs ls bs ns ds f Y.1 else match nearR Y.2.1 ds ns with
          | none => (zeroPD, zeroP, 4)
          | some h => (Y.1, (⟨h.iface, h.addr, h.router, 1, none, 0, 0, [], -1⟩ : PV), 0)) = Rz) := by
        show _ = _
        rw [← hf.out.2, ← hY]
        conv => rhs; rw [fwdF, if_neg (by dsimp only; omega)]
        all_goals rfl
      rw [hY] at HC
      obtain ⟨⟨xs, xd, xf, xt, xl⟩, r, er⟩ := Y
      dsimp only at HC HKP HRE
      have HNW : Hid (∀ W, Below w.heap.size w W → Nears W W.heap.size nA nn nc ns) := fun W h => (HXW.out W h).n
      have hnn := HX.nn
      have HFM : Hid (mu ⟨qs, qd, qf, qt, ql⟩ < f + 1) := hf.out.1
      have HLEN := Lib.hid hlen
      have HWL := Lib.hid hwl
      have HMU := Lib.hid hmu
      have hsB := hB2.out.size
      clear HX hY hf hL hwl hlen hmu
      go_wp2_with fail
      refine HC.out.mono ?_
      rintro e w3 ⟨v, rfl, ⟨A6, n6, c6, rfl, ho6⟩, hb3⟩
      have hs3 := hb3.size
      obtain ⟨w4, hw4⟩ : ∃ w4, w3.alloc (.cells #[.int .u32 xs, .int .u32 xd, .int .u32 xf, .int .i64 xt, .slice A6 n6 c6] 54) = w4 := ⟨_, rfl⟩
      have hb4 : Below w3.heap.size w3 w4 := by rw [← hw4]; exact belowA _ _
      have hb34 := below3 hb3 hb4
      have hs4 := hb4.size
      have HN4 : Hid (Blk w4 w3.heap.size 54 [.int .u32 xs, .int .u32 xd, .int .u32 xf, .int .i64 xt, .slice A6 n6 c6]) := by show Blk _ _ _ _; rw [← hw4]; exact Blk.new w3 _ _
      have HF4 := Lib.hid (hF.out.keep hb34)
      have HK4 := Lib.hid (hK.out.keep hb34)
      have HP4 := Lib.hid (hP.out.keep hb34)
      have HQ4 := Lib.hid (hQ.out.keep hb34)
      have HB4 := Lib.hid (below3 hB2.out hb34)
      have HI4 : Hid (Ints w4 w3.heap.size .i64 A6 n6 c6 xl) := ho6.ints.below hb4
      have HO6 : Hid (∀ ad, A6 = some ad → wq.heap.size ≤ ad.block ∧ ad.block < w3.heap.size) := fun ad e => World.ownsRow.lt ho6 ad.block (by rw [e]; rfl)
      have hxl : xl.length = n6 := ho6.len
      have F0 := HF4.out.cell 0
      have F1 := HF4.out.cell 1
      have F2 := HF4.out.cell 2
      have F3 := HF4.out.cell 3
      have F4 := HF4.out.cell 4
      have N0 := HN4.out.cell 0
      have N1 := HN4.out.cell 1
      have N2 := HN4.out.cell 2
      have N3 := HN4.out.cell 3
      have N4 := HN4.out.cell 4
      simp only [List.getElem?_cons_zero, List.getElem?_cons_succ] at F0 F1 F2 F3 F4 N0 N1 N2 N3 N4
      have hlF4 := HF4.out.lt
      have hlN4 := HN4.out.lt
      have hlK4 := HK4.out.lt
      clear ho6 hb3 hb4 hb34 HC f0 f1 f2 f3 f4 k0 k1 k2 k3 k4
      by_cases he23 : er = 23
      · have HF : Hid (Rz = (zeroPD, zeroP, 3)) := by show _ = _; rw [← HRE.out, if_pos he23]
        have d1 : (er == 23) = true := by simp [he23]
        clear he23
        obtain ⟨HQz, HPz1, HPz2, HBz, _⟩ := out_facts [.int .u32 0, .int .u32 0, .int .u32 0, .int .i64 0, .slice none 0 0] [.int .i64 0, .int .u32 0, .int .u32 0, .int .i64 0, .slice none 0 0, .int .i64 0] HP4.out HQ4.out HB4.out (Nat.le_refl _)
        go_wp2_with (first | (refine wpList_store_blk rfl 54 _ _ rfl (w.heap.size + 1 + 1) rfl rfl HP4.out (by kernel_rfl) rfl (by kernel_rfl) ?_) | (refine wpList_store_blk rfl 57 _ _ rfl (w.heap.size + 1 + 1 + 1) rfl rfl HQz.out (by kernel_rfl) rfl (by kernel_rfl) ?_))
        refine bodyPost_ret (results_cells3 rfl _ (w.heap.size + 1 + 1) (w.heap.size + 1 + 1 + 1) _ _ rfl rfl HPz1.out HPz2.out Tryz.underlying54 rfl (by kernel_rfl) Tryz.underlying57 rfl (by kernel_rfl)) rfl ?_
        rw [HF.out]
        exact ⟨none, 0, 0, none, 0, 0, rfl, ints_nil _ _, ints_nil _ _, fun h => absurd h (by omega), fun h => absurd h (by omega), HBz.out⟩
      have d1 : (er == 23) = false := by simp [he23]
      by_cases he0 : er = 0
      case neg =>
        have HF : Hid (Rz = (zeroPD, zeroP, 2)) := by show _ = _; rw [← HRE.out, if_neg he23, if_pos he0]
        have d2 : (er != 0) = true := by simp [he0]
        clear he23 he0
        obtain ⟨HQz, HPz1, HPz2, HBz, _⟩ := out_facts [.int .u32 0, .int .u32 0, .int .u32 0, .int .i64 0, .slice none 0 0] [.int .i64 0, .int .u32 0, .int .u32 0, .int .i64 0, .slice none 0 0, .int .i64 0] HP4.out HQ4.out HB4.out (Nat.le_refl _)
        go_wp2_with (first | (refine wpList_store_blk rfl 54 _ _ rfl (w.heap.size + 1 + 1) rfl rfl HP4.out (by kernel_rfl) rfl (by kernel_rfl) ?_) | (refine wpList_store_blk rfl 57 _ _ rfl (w.heap.size + 1 + 1 + 1) rfl rfl HQz.out (by kernel_rfl) rfl (by kernel_rfl) ?_))
        refine bodyPost_ret (results_cells3 rfl _ (w.heap.size + 1 + 1) (w.heap.size + 1 + 1 + 1) _ _ rfl rfl HPz1.out HPz2.out Tryz.underlying54 rfl (by kernel_rfl) Tryz.underlying57 rfl (by kernel_rfl)) rfl ?_
        rw [HF.out]
        exact ⟨none, 0, 0, none, 0, 0, rfl, ints_nil _ _, ints_nil _ _, fun h => absurd h (by omega), fun h => absurd h (by omega), HBz.out⟩
      subst he0
      clear he23 d1
      have HR2 := HRE.out
      rw [if_neg (by omega), if_neg (by simp)] at HR2
      have HKQ := Lib.hid (HKP.out rfl)
      clear HRE HKP
      by_cases hr0 : r = 0
      · subst hr0
        rw [if_pos rfl] at HR2
        have K := HKQ.out
        have hfl := K.flow
        have hsrc := K.src
        have hdst := K.dst
        have hlen2 := K.len
        have httl : xt = qt := by
          rcases K.ttl with ⟨_, h⟩ | ⟨h, _⟩
          · exact h
          · exact absurd rfl h
        dsimp only at hfl hsrc hdst hlen2
        have hm := K.mu
        have hl0 := HLEN.out
        subst hfl hsrc hdst httl
        obtain ⟨wz, hwz⟩ : ∃ wz, w4.setRow (w.heap.size + 1) #[.int .u32 xs, .int .u32 xd, .int .u32 xf, .int .i64 xt, .slice A6 n6 c6] = wz := ⟨_, rfl⟩
        have hsv : Save (w.heap.size + 1) w4 wz := by rw [← hwz]; exact Save.row _ _ _
        have hsz := hsv.size
        have HKz : Hid (Blk wz (w.heap.size + 1) 54 [.int .u32 xs, .int .u32 xd, .int .u32 xf, .int .i64 xt, .slice A6 n6 c6]) := by show Blk _ _ _ _; rw [← hwz]; exact HK4.out.row _
        have HFz := Lib.hid (HF4.out.save hsv (by omega))
        have HPz := Lib.hid (HP4.out.save hsv (by omega))
        have HQz := Lib.hid (HQ4.out.save hsv (by omega))
        have HBz : Hid (Below w.heap.size w wz) := HB4.out.trans (hsv.below (by omega) HB4.out.size)
        have HNEW : Hid (RwI w [.slice tA tn tc, .slice gA gn gc, .slice lA ln lc, .slice bA bn bc, .slice nA nn nc] es gs ls bs ns ds Rz wz) :=
          ⟨f, ⟨xs, xd, xf, xt, xl⟩, A6, n6, c6, Lib.hid ⟨by have := HFM.out; omega, HR2⟩, HFz, HKz, HPz, HQz, Lib.hid ⟨(ints_save HI4.out hsv (by omega) (fun _ ad e => by have := HO6.out ad e; omega)).more (by omega), fun _ ad e => by have := HO6.out ad e; omega⟩,
            Lib.hid ⟨fun x hx => by
              rcases K.ls x hx with h | h
              · exact HWL.out x h
              · omega, hq0, hq1, hq2, hq3, by omega⟩, HBz⟩
        have HMZ : Hid (muW (w.heap.size + 1) wz = xt.toNat + n6) := muW_of (HKz.out.cell 3) (HKz.out.cell 4)
        have hmm : xt.toNat + n6 < xt.toNat + n2 := by
          have h1 : xt.toNat + xl.length < xt.toNat + ql.length := hm
          omega
        clear K hm hl0 hlen2 hsv HKQ HR2
        go_wp2_with (refine wpList_store_blk rfl 54 _ _ rfl (w.heap.size + 1) rfl rfl HK4.out (by kernel_rfl) rfl (by kernel_rfl) ?_)
        try rw [hwz]
        try simp only [Act.put]
        go_roundw
        case rel => exact HNEW.out
        case measure => rw [HMZ.out, HMU.out]; exact hmm
      rw [if_neg hr0] at HR2
      have HR3 := Lib.hid HR2
      have d3 : (r == 0) = false := by simp [hr0]
      clear HR2 hr0
      have HLN : Hid (ns.length = nn) := (HNW.out _ HB4.out).2
      obtain ⟨X, hX⟩ : ∃ X, nearR r ds ns = X := ⟨_, rfl⟩
      have HNR : Hid (ns.find? (upTo r ds) = X) := hX
      rw [hX] at HR3
      have HI5 : Hid (RnI w4 nn r ds ns (.int .i64 (0 : Nat)) w4) := ⟨0, Nat.zero_le _, rfl, Lib.hid (fun j h => absurd h (by omega)), Lib.hid (Below.refl _ _)⟩
      clear hX
      go_upto_region 9 with fail
      try rw [hw4]
      go_wp2
      go_loopw [40] (fun iv wr => RnI w4 nn r ds ns iv wr) (fun iv _ => nn - (intOf iv).toNat)
      case atStart => exact HI5.out
      case round =>
        obtain ⟨k, hk, rfl, hno, hB6⟩ := hrel
        clear HI5 F0 F1 F2 F3 F4 N0 N1 N2 N3 N4 hlF4 hlN4 hlK4 d3 hw4
        have HF6 := Lib.hid (HF4.out.keep hB6.out)
        have HP6 := Lib.hid (HP4.out.keep hB6.out)
        have HQ6 := Lib.hid (HQ4.out.keep hB6.out)
        have HN6 := Lib.hid (HN4.out.keep hB6.out)
        have HB6 := Lib.hid (below3 HB4.out hB6.out)
        have hs6 := hB6.out.size
        by_cases hlt : k < nn
        case neg =>
          have HX0 : Hid (X = none) := by
            show _ = _
            rw [← HNR.out, find_skip (k := k) hno.out, List.drop_eq_nil_of_le (by rw [HLN.out]; omega)]
            rfl
          have HF : Hid (Rz = (zeroPD, zeroP, 4)) := by
            have h := HR3.out
            rw [HX0.out] at h
            exact h.symm
          obtain ⟨HQz, HPz1, HPz2, HBz, _⟩ := out_facts [.int .u32 0, .int .u32 0, .int .u32 0, .int .i64 0, .slice none 0 0] [.int .i64 0, .int .u32 0, .int .u32 0, .int .i64 0, .slice none 0 0, .int .i64 0] HP6.out HQ6.out HB6.out (Nat.le_refl _)
          go_wp2_with (first | (refine wpList_store_blk rfl 54 _ _ rfl (w.heap.size + 1 + 1) rfl rfl HP6.out (by kernel_rfl) rfl (by kernel_rfl) ?_) | (refine wpList_store_blk rfl 57 _ _ rfl (w.heap.size + 1 + 1 + 1) rfl rfl HQz.out (by kernel_rfl) rfl (by kernel_rfl) ?_))
          refine bodyPost_ret (results_cells3 rfl _ (w.heap.size + 1 + 1) (w.heap.size + 1 + 1 + 1) _ _ rfl rfl HPz1.out HPz2.out Tryz.underlying54 rfl (by kernel_rfl) Tryz.underlying57 rfl (by kernel_rfl)) rfl ?_
          rw [HF.out]
          exact ⟨none, 0, 0, none, 0, 0, rfl, ints_nil _ _, ints_nil _ _, fun h => absurd h (by omega), fun h => absurd h (by omega), HBz.out⟩
        obtain ⟨b, o, x, rfl, hbB, hxk, c0, c1, c2⟩ := (HNW.out _ HB6.out).get hlt
        have hbw : b < wr.heap.size := hbB
        have HK := Lib.hid hxk
        obtain ⟨xi, xa, xr⟩ := x
        dsimp only at c0 c1 c2
        obtain ⟨wa, hwa⟩ : ∃ wa, wr.alloc (.cells #[.int .i64 xi, .int .u32 xa, .int .u32 xr] 81) = wa := ⟨_, rfl⟩
        have HXB2 : Hid (Blk wa wr.heap.size 81 [.int .i64 xi, .int .u32 xa, .int .u32 xr]) := by show Blk _ _ _ _; rw [← hwa]; exact Blk.new wr _ _
        have hba : Below wr.heap.size wr wa := by rw [← hwa]; exact belowA _ _
        have HBA := Lib.hid (below3 hB6.out hba)
        have HBW := Lib.hid (below3 HB6.out hba)
        have hsa := hba.size
        have e0 := HXB2.out.cell 0
        have e1 := HXB2.out.cell 1
        have e2 := HXB2.out.cell 2
        have f4 := HF6.out.cell 4
        simp only [List.getElem?_cons_zero, List.getElem?_cons_succ] at e0 e1 e2 f4
        have hlta := HXB2.out.lt
        have hlf6 := HF6.out.lt
        have HDn := Lib.hid (refDown52_any dA dn dc wa.heap.size ds xi wa (HDW.out _ HBW.out) (Nat.le_refl _))
        obtain ⟨dq, hdq⟩ : ∃ dq, downB ds xi = dq := ⟨_, rfl⟩
        rw [hdq] at HDn
        have HU : Hid (upTo r ds ⟨xi, xa, xr⟩ = (decide (xr = r) && !dq)) := by show _ = _; unfold upTo; rw [← hdq]
        have HNX : Hid (upTo r ds ⟨xi, xa, xr⟩ = false → ∀ j, j < k + 1 → ∀ x, ns[j]? = some x → upTo r ds x = false) := by
          intro hf j hj y hy
          rcases Nat.lt_or_ge j k with h | h
          · exact hno.out j h y hy
          · obtain rfl : j = k := by omega
            rw [HK.out] at hy
            obtain rfl := Option.some.inj hy
            exact hf
        clear hxk hdq hba
        by_cases hr : xr = r
        case neg =>
          have d1 : (xr == r) = false := by simp [hr]
          have HN2 := Lib.hid (HNX.out (by rw [HU.out, decide_eq_false hr]; rfl))
          clear hr HDn
          go_upto_region 13 with fail
          try rw [hwa]
          go_wp2
          go_roundw
          case rel => exact ⟨k + 1, by omega, by go_num, HN2, HBA⟩
          case measure => simp [intOf]; omega
        have d1 : (xr == r) = true := by simp [hr]
        cases dq
        case true =>
          have HN2 := Lib.hid (HNX.out (by rw [HU.out]; simp))
          clear hr
          go_upto_region 13 with fail
          try rw [hwa]
          go_wp2_with fail
          refine HDn.out.mono ?_
          rintro e w5 ⟨rfl, rfl⟩
          go_wp2
          go_roundw
          case rel => exact ⟨k + 1, by omega, by go_num, HN2, HBA⟩
          case measure => simp [intOf]; omega
        case false =>
          have HF : Hid (Rz = ((⟨xs, xd, xf, xt, xl⟩ : PD), (⟨xi, xa, xr, 1, none, 0, 0, [], -1⟩ : PV), 0)) := by
            have h1 : X = some ⟨xi, xa, xr⟩ := by
              rw [← HNR.out]
              exact find_at HK.out (by rw [HU.out]; simp [hr]) hno.out
            have h := HR3.out
            rw [h1] at h
            exact h.symm
          clear hr
          go_upto_region 13 with fail
          try rw [hwa]
          go_wp2_with fail
          refine HDn.out.mono ?_
          rintro e w5 ⟨rfl, rfl⟩
          obtain ⟨wE, hwE⟩ : ∃ wE, wa.drew = wE := ⟨_, rfl⟩
          have hbE : Below wa.heap.size wa wE := by rw [← hwE]; exact (Below.refl _ _).drew
          have hsE := hbE.size
          have HBAE := Lib.hid (below3 HBA.out hbE)
          have HBE := Lib.hid (below3 HBW.out hbE)
          have HPE := Lib.hid (HP4.out.keep HBAE.out)
          have HQE := Lib.hid (HQ4.out.keep HBAE.out)
          have HIE : Hid (Ints wE w3.heap.size .i64 A6 n6 c6 xl) := HI4.out.below (HBAE.out.mono (by omega))
          have HXE := Lib.hid (HXB2.out.keep hbE)
          have HSE : Hid (Blk wE w3.heap.size 54 [.int .u32 xs, .int .u32 xd, .int .u32 xf, .int .i64 xt, .slice A6 n6 c6] ∧ wE.cell? ⟨wr.heap.size, 0, none⟩ = some (.int .i64 xi) ∧ wE.cell? ⟨wr.heap.size, 1, none⟩ = some (.int .u32 xa) ∧ wE.cell? ⟨wr.heap.size, 2, none⟩ = some (.int .u32 xr)) := ⟨HN4.out.keep HBAE.out, HXE.out.cell 0, HXE.out.cell 1, HXE.out.cell 2⟩
          have hlXE := HXE.out.lt
          have HSS : Hid (∀ (V V2 : World) (g : Nat), wE.heap.size ≤ V.heap.size → Save g V V2 → g ≠ w3.heap.size → g ≠ wr.heap.size → (Blk V w3.heap.size 54 [.int .u32 xs, .int .u32 xd, .int .u32 xf, .int .i64 xt, .slice A6 n6 c6] ∧ V.cell? ⟨wr.heap.size, 0, none⟩ = some (.int .i64 xi) ∧ V.cell? ⟨wr.heap.size, 1, none⟩ = some (.int .u32 xa) ∧ V.cell? ⟨wr.heap.size, 2, none⟩ = some (.int .u32 xr)) → (Blk V2 w3.heap.size 54 [.int .u32 xs, .int .u32 xd, .int .u32 xf, .int .i64 xt, .slice A6 n6 c6] ∧ V2.cell? ⟨wr.heap.size, 0, none⟩ = some (.int .i64 xi) ∧ V2.cell? ⟨wr.heap.size, 1, none⟩ = some (.int .u32 xa) ∧ V2.cell? ⟨wr.heap.size, 2, none⟩ = some (.int .u32 xr))) := by
            rintro V V2 g hV hsv n1 n2 ⟨s0, s1, s2, s3⟩
            exact ⟨s0.save hsv (by omega), (hsv.cell (by omega) (by omega)).trans s1, (hsv.cell (by omega) (by omega)).trans s2, (hsv.cell (by omega) (by omega)).trans s3⟩
          have HEND : Hid (∀ W, Below w.heap.size w W → Keep (fun q => q ≠ w.heap.size + 1 + 1 ∧ q ≠ w.heap.size + 1 + 1 + 1) wE W → GivesOutB B ((⟨xs, xd, xf, xt, xl⟩ : PD), (⟨xi, xa, xr, 1, none, 0, 0, [], -1⟩ : PV), 0) w (.returned (.tuple #[.agg #[.int .u32 xs, .int .u32 xd, .int .u32 xf, .int .i64 xt, .slice A6 n6 c6], .agg #[.int .i64 xi, .int .u32 xa, .int .u32 xr, .int .i64 1, .slice none 0 0, .int .i64 (-1)], .int .i64 0])) W) := by
            intro W hW2 hkW
            have hsW := hkW.size
            exact ⟨A6, n6, c6, none, 0, 0, rfl, (ints_kp HIE.out hkW (by omega) (fun _ ad e => by have := HO6.out ad e; omega)).more (by omega), ints_nil _ _, fun _ ad e => by have := HO6.out ad e; omega, fun _ ad e => (by cases e), hW2⟩
          clear hbE
          go_upto_region 14 with fail
          refine wp_region_noPanic ?_
          refine wp_region_held_drew (S := fun V => Blk V w3.heap.size 54 [.int .u32 xs, .int .u32 xd, .int .u32 xf, .int .i64 xt, .slice A6 n6 c6] ∧ V.cell? ⟨wr.heap.size, 0, none⟩ = some (.int .i64 xi) ∧ V.cell? ⟨wr.heap.size, 1, none⟩ = some (.int .u32 xa) ∧ V.cell? ⟨wr.heap.size, 2, none⟩ = some (.int .u32 xr)) (by kernel_rfl) (by rw [hwE]; exact HSE.out) (fun hHeld => ?_)
          rw [hwE] at hHeld ⊢
          clear hwE hwa
          refine take_in (i := 0) _ (some 59) (by kernel_rfl) (by kernel_rfl) (by kernel_rfl) (by kernel_rfl) (fun _ _ _ h => h) (by rfl) (fun o ho w hSw => by cases ho; exact run_load_blk _ _ rfl _ rfl (hSw.1) _ Tryz.underlying54 rfl (by kernel_rfl)) hHeld ?_
          try simp only [Act.put, List.setIfInBounds_toArray, List.set_cons_zero, List.set_cons_succ]
          refine take_in (i := 1) _ (some 60) (by kernel_rfl) (by kernel_rfl) (by kernel_rfl) (by kernel_rfl) (fun _ _ _ h => h) (by rfl) (fun o ho w hSw => by cases ho; (try dsimp only at hSw); (try go_split_ands); go_simp; (try with_reducible rfl)) hHeld ?_
          try simp only [Act.put, List.setIfInBounds_toArray, List.set_cons_zero, List.set_cons_succ]
          refine take_in (i := 2) _ (some 61) (by kernel_rfl) (by kernel_rfl) (by kernel_rfl) (by kernel_rfl) (fun _ _ _ h => h) (by rfl) (fun o ho w hSw => by cases ho; (try dsimp only at hSw); (try go_split_ands); go_simp; (try with_reducible rfl)) hHeld ?_
          try simp only [Act.put, List.setIfInBounds_toArray, List.set_cons_zero, List.set_cons_succ]
          refine take_in (i := 3) _ (some 62) (by kernel_rfl) (by kernel_rfl) (by kernel_rfl) (by kernel_rfl) (fun _ _ _ h => h) (by rfl) (fun o ho w hSw => by cases ho; (try dsimp only at hSw); (try go_split_ands); go_simp; (try with_reducible rfl)) hHeld ?_
          try simp only [Act.put, List.setIfInBounds_toArray, List.set_cons_zero, List.set_cons_succ]
          refine take_in (i := 4) _ (some 63) (by kernel_rfl) (by kernel_rfl) (by kernel_rfl) (by kernel_rfl) (fun _ _ _ h => h) (by rfl) (fun o ho w hSw => by cases ho; (try dsimp only at hSw); (try go_split_ands); go_simp; (try with_reducible rfl)) hHeld ?_
          try simp only [Act.put, List.setIfInBounds_toArray, List.set_cons_zero, List.set_cons_succ]
          refine take_in (i := 5) _ (some 64) (by kernel_rfl) (by kernel_rfl) (by kernel_rfl) (by kernel_rfl) (fun _ _ _ h => h) (by rfl) (fun o ho w hSw => by cases ho; (try dsimp only at hSw); (try go_split_ands); go_simp; (try with_reducible rfl)) hHeld ?_
          try simp only [Act.put, List.setIfInBounds_toArray, List.set_cons_zero, List.set_cons_succ]
          refine take_in (i := 6) _ (some 65) (by kernel_rfl) (by kernel_rfl) (by kernel_rfl) (by kernel_rfl) (fun _ _ _ h => h) (by rfl) (fun o ho w hSw => by cases ho; (try dsimp only at hSw); (try go_split_ands); go_simp; (try with_reducible rfl)) hHeld ?_
          try simp only [Act.put, List.setIfInBounds_toArray, List.set_cons_zero, List.set_cons_succ]
          refine take_in (i := 7) _ (some 66) (by kernel_rfl) (by kernel_rfl) (by kernel_rfl) (by kernel_rfl) (fun _ _ _ h => h) (by rfl) (fun o ho w hSw => by cases ho; (try dsimp only at hSw); (try go_split_ands); go_simp; (try with_reducible rfl)) hHeld ?_
          try simp only [Act.put, List.setIfInBounds_toArray, List.set_cons_zero, List.set_cons_succ]
          refine wpAnyH_ready (rs := [8]) (by kernel_rfl) (by simp) ?_
          refine AllReadyH.cons (o := _) rfl (fun K hK => ?_) AllReadyH.nil
          obtain ⟨HQz, HPz1, HPz2, HBz, HKz⟩ := out_facts [.int .u32 xs, .int .u32 xd, .int .u32 xf, .int .i64 xt, .slice A6 n6 c6] [.int .i64 xi, .int .u32 xa, .int .u32 xr, .int .i64 1, .slice none 0 0, .int .i64 (-1)] HPE.out HQE.out HBE.out (Nat.le_refl _)
          have HSE1 := Lib.hid (HSS.out _ _ _ (Nat.le_refl _) (Save.row (w.heap.size + 1 + 1) wE [.int .u32 xs, .int .u32 xd, .int .u32 xf, .int .i64 xt, .slice A6 n6 c6].toArray) (by omega) (by omega) HSE.out)
          have HSE2 := Lib.hid (HSS.out _ _ _ (by simp [World.setRow]) (Save.row (w.heap.size + 1 + 1 + 1) (wE.setRow (w.heap.size + 1 + 1) [.int .u32 xs, .int .u32 xd, .int .u32 xf, .int .i64 xt, .slice A6 n6 c6].toArray) [.int .i64 xi, .int .u32 xa, .int .u32 xr, .int .i64 1, .slice none 0 0, .int .i64 (-1)].toArray) (by omega) (by omega) HSE1.out)
          refine step_store_blk [.int .u32 xs, .int .u32 xd, .int .u32 xf, .int .i64 xt, .slice A6 n6 c6] rfl rfl 54 _ _ rfl (w.heap.size + 1 + 1) rfl rfl HPE.out (by kernel_rfl) rfl (by kernel_rfl) ?_
          refine hK.out _ _ HSE1.out (fun hHeld => ?_)
          clear hK K
          try simp only [Act.put, List.setIfInBounds_toArray, List.set_cons_zero, List.set_cons_succ]
          refine wpAnyH_ready (rs := [9]) (by kernel_rfl) (by simp) ?_
          refine AllReadyH.cons (o := _) rfl (fun K hK => ?_) AllReadyH.nil
          refine step_store_blk [.int .i64 xi, .int .u32 xa, .int .u32 xr, .int .i64 1, .slice none 0 0, .int .i64 (-1)] rfl rfl 57 _ _ rfl (w.heap.size + 1 + 1 + 1) rfl rfl HQz.out (by kernel_rfl) rfl (by kernel_rfl) ?_
          refine hK.out _ _ HSE2.out (fun hHeld => ?_)
          clear hK K
          try simp only [Act.put, List.setIfInBounds_toArray, List.set_cons_zero, List.set_cons_succ]
          refine take_in (i := 10) _ (some 8) (by kernel_rfl) (by kernel_rfl) (by kernel_rfl) (by kernel_rfl) (fun _ _ _ h => h) (by rfl) (fun o ho w hSw => by cases ho; (try dsimp only at hSw); (try go_split_ands); go_simp; (try with_reducible rfl)) hHeld ?_
          try simp only [Act.put, List.setIfInBounds_toArray, List.set_cons_zero, List.set_cons_succ]
          refine wpAnyH_done (by kernel_rfl) ?_ _
          refine NoPanic.normal ?_
          go_wp2
          refine bodyPost_ret (results_cells3 rfl _ (w.heap.size + 1 + 1) (w.heap.size + 1 + 1 + 1) _ _ rfl rfl HPz1.out HPz2.out Tryz.underlying54 rfl (by kernel_rfl) Tryz.underlying57 rfl (by kernel_rfl)) rfl ?_
          rw [HF.out]
          exact HEND.out _ HBz.out HKz.out
end Go.Proofs.YtplppbgkkfjknaaGreatDoor
namespace Go.Proofs.YtplppbgkkfjknaaGreatDoor
open Go.RowKit

set_option linter.unusedVariables false
set_option linter.unusedSimpArgs false
set_option maxRecDepth 100000 in
set_option maxHeartbeats 4000000 in
theorem samePacket52_any (p : PD) (A B : Option Addr) (n c m d N : Nat) (w : World) (hx : Ints w N .i64 A n c p.ls) (hy : Ints w N .i64 B m d p.ls) (hN : N ≤ w.heap.size) (h1 : p.ls.length ≤ 17592186044416) :
    Calls Tryz.prog 20 #[.agg #[.int .u32 p.src, .int .u32 p.dst, .int .u32 p.flow, .int .i64 p.ttl, .slice A n c], .agg #[.int .u32 p.src, .int .u32 p.dst, .int .u32 p.flow, .int .i64 p.ttl, .slice B m d]] w fun e w' => e = .returned (.bool true) ∧ Below w.heap.size w w' := by
  obtain ⟨a0, a1, a2, a3, xs⟩ := p
  dsimp only at hx hy h1 ⊢
  have hl1 := hx.len
  have hl2 := hy.len
  obtain ⟨w1, hw1⟩ : ∃ w1, (w.alloc (.cells #[.int .u32 a0, .int .u32 a1, .int .u32 a2, .int .i64 a3, .slice A n c] 54)).alloc (.cells #[.int .u32 a0, .int .u32 a1, .int .u32 a2, .int .i64 a3, .slice B m d] 54) = w1 := ⟨_, rfl⟩
  have HP1 : Hid (Blk w1 w.heap.size 54 [.int .u32 a0, .int .u32 a1, .int .u32 a2, .int .i64 a3, .slice A n c]) := by show Blk _ _ _ _; rw [← hw1]; exact (Blk.new w _ _).keep (belowA _ _)
  have HQ1 : Hid (Blk w1 (w.heap.size + 1) 54 [.int .u32 a0, .int .u32 a1, .int .u32 a2, .int .i64 a3, .slice B m d]) := by show Blk _ _ _ _; rw [← hw1]; exact Blk.new2 w _ _ _
  have HB1 : Hid (Below w.heap.size w w1) := by show Below _ _ _; rw [← hw1]; exact below3 (belowA _ _) (belowA _ _)
  have HC := Lib.hid (ints52_any A B n c m d N N xs xs w1 (hx.below (HB1.out.mono hN)) (hy.below (HB1.out.mono hN)) (by have := HB1.out.size; omega) (by have := HB1.out.size; omega) (by omega) (by omega))
  rw [decide_eq_true (show xs = xs from rfl)] at HC
  have b0 := HP1.out.cell 0
  have b1 := HP1.out.cell 1
  have b2 := HP1.out.cell 2
  have b3 := HP1.out.cell 3
  have b4 := HP1.out.cell 4
  have c0 := HQ1.out.cell 0
  have c1 := HQ1.out.cell 1
  have c2 := HQ1.out.cell 2
  have c3 := HQ1.out.cell 3
  have c4 := HQ1.out.cell 4
  simp only [List.getElem?_cons_zero, List.getElem?_cons_succ] at b0 b1 b2 b3 b4 c0 c1 c2 c3 c4
  have hlq := HQ1.out.lt
  have hlp : w.heap.size < w1.heap.size := by omega
  clear hx hy hl1 hl2
  go_enter Tryz.func20, Tryz.ntmps20
  go_wp2_with fail
  refine HC.out.mono ?_
  rintro e w2 ⟨rfl, hb2⟩
  have HB2 := Lib.hid (below3 HB1.out hb2)
  clear hb2 HC
  go_wp2
  go_ret
  exact ⟨by first | rfl | simp, HB2.out⟩
end Go.Proofs.YtplppbgkkfjknaaGreatDoor
