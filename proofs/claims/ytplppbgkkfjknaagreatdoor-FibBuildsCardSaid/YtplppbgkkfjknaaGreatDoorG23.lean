/- Forward, plain: what a step keeps; the function. Forward: the walk (printed by gen_faddr.py from FFw.base). -/
import Derived.Test.YtplppbgkkfjknaaGreatDoorG22
import Derived.Test.YtplppbgkkfjknaaGreatDoorG21
import Derived.Test.YtplppbgkkfjknaaGreatDoorG10
import Derived.Test.YtplppbgkkfjknaaGreatDoorG9
import Derived.Test.YtplppbgkkfjknaaGreatDoorG16
namespace Go.Proofs.YtplppbgkkfjknaaGreatDoor
open Go.RowKit

set_option linter.unusedVariables false
set_option linter.unusedSimpArgs false
/-- how long a packet can still go -/
def mu (p : PD) : Nat := p.ttl.toNat + p.ls.length
theorem look_mem : ∀ {es : List EV} {x : Int} {hs : List HV}, look es x = some hs → ∃ i, i < es.length ∧ hsAt es i = hs
  | [], _, _, h => by cases h
  | e :: es, x, hs, h => by
    rw [look] at h
    by_cases hx : e.inn = x
    · rw [if_pos hx] at h
      injection h with h
      exact ⟨0, by simp, by simpa [hsAt] using h⟩
    · rw [if_neg hx] at h
      obtain ⟨i, hi, he⟩ := look_mem h
      exact ⟨i + 1, by simpa using hi, by simpa [hsAt] using he⟩
/-- what a step of a packet without an error keeps -/
structure Kept (p q : PD) (r : Int) : Prop where
  mu : mu q < mu p
  flow : q.flow = p.flow
  src : q.src = p.src
  dst : q.dst = p.dst
  ttl : (r = 0 ∧ q.ttl = p.ttl) ∨ (r ≠ 0 ∧ 2 ≤ p.ttl ∧ q.ttl = p.ttl - 1)
  len : q.ls.length ≤ p.ls.length
  ls : ∀ x ∈ q.ls, x ∈ p.ls ∨ (16 ≤ x ∧ x ≤ 1048575)
theorem step_kept {es : List EV} {p : PD} (h0 : tabErr es = 0) (hl : ¬ p.ls.length = 0) (h : (stepR es p).2.2 = 0) : Kept p (stepR es p).1 (stepR es p).2.1 := by
  obtain ⟨hsort, _, hhops⟩ := sorted_of h0
  have hdl : ∀ x ∈ p.ls.dropLast, x ∈ p.ls := fun x hx => List.dropLast_subset _ hx
  have hll : p.ls.dropLast.length = p.ls.length - 1 := List.length_dropLast
  unfold stepR at h ⊢
  cases hk : look es (p.ls.getD (p.ls.length - 1) 0) with
  | none => rw [hk] at h; exact absurd h (by simp)
  | some hs =>
    rw [hk] at h
    dsimp only at h ⊢
    by_cases h1 : hs.length = 0
    · rw [if_pos h1]
      refine ⟨?_, rfl, rfl, rfl, .inl ⟨rfl, rfl⟩, ?_, fun x hx => .inl (hdl x hx)⟩
      · show p.ttl.toNat + p.ls.dropLast.length < p.ttl.toNat + p.ls.length
        omega
      · show p.ls.dropLast.length ≤ _
        omega
    rw [if_neg h1] at h ⊢
    by_cases h2 : p.ttl ≤ 1
    · rw [if_pos h2] at h; exact absurd h (by simp)
    rw [if_neg h2]
    obtain ⟨i0, hi0, hie⟩ := look_mem hk
    have hhop := hop_of (hhops i0 hi0)
    rw [hie] at hhop
    obtain ⟨y, hy⟩ : ∃ y, hs[p.flow.toNat % hs.length]? = some y := ⟨_, List.getElem?_eq_getElem (Nat.mod_lt _ (by omega))⟩
    have hyl := (hhop.2 _ _ hy).2
    simp only [hy, Option.getD_some]
    have e1 : (hopOut p y).ls.length ≤ p.ls.length := by
      show (if y.label = -1 then p.ls.dropLast else p.ls.dropLast ++ [y.label]).length ≤ _
      split
      · omega
      · rw [List.length_append, hll, List.length_singleton]; omega
    refine ⟨?_, rfl, rfl, rfl, 
      .inr ⟨(hhop.2 _ _ hy).1, by omega, rfl⟩, e1, fun x hx => ?_⟩
    · show (p.ttl - 1).toNat + (hopOut p y).ls.length < p.ttl.toNat + p.ls.length
      omega
    · have hx' : x ∈ (if y.label = -1 then p.ls.dropLast else p.ls.dropLast ++ [y.label]) := hx
      split at hx'
      · exact .inl (hdl x hx')
      · rcases List.mem_append.1 hx' with h | h
        · exact .inl (hdl x h)
        · obtain rfl : x = y.label := by simpa using h
          rcases hyl with h | h
          · contradiction
          · exact .inr h
theorem fwd_kept {es : List EV} {p : PD} (h : (fwd es p).2.2 = 0) : Kept p (fwd es p).1 (fwd es p).2.1 := by
  unfold fwd at h ⊢
  by_cases h0 : tabErr es = 0
  · rw [if_neg (by simp [h0])] at h ⊢
    by_cases h1 : p.ls.length = 0
    · rw [if_pos h1] at h; exact absurd h (by simp)
    · rw [if_neg h1] at h ⊢
      exact step_kept h0 h1 h
  · rw [if_pos h0] at h
    exact absurd h h0
/-- Forward, f steps at most -/
def fwdF (es : List Ent) (gs : List GE) (ls : List Int) (bs : List EV) (ns : List NH) (ds : List Bool) : Nat → PD → PD × PV × Int
  | 0, p => (zeroPD, zeroP, 0)
  | f + 1, p => if p.ls.length = 0 then addrR es gs ls p ds else if (fwd bs p).2.2 = 23 then (zeroPD, zeroP, 3) else if (fwd bs p).2.2 ≠ 0 then (zeroPD, zeroP, 2)
    else if (fwd bs p).2.1 = 0 then fwdF es gs ls bs ns ds f (fwd bs p).1
    else match nearR (fwd bs p).2.1 ds ns with
      | none => (zeroPD, zeroP, 4)
      | some h => ((fwd bs p).1, ⟨h.iface, h.addr, h.router, 1, none, 0, 0, [], -1⟩, 0)
def forwardR (es : List Ent) (gs : List GE) (ls : List Int) (bs : List EV) (ns : List NH) (ds : List Bool) (p : PD) : PD × PV × Int := fwdF es gs ls bs ns ds (mu p + 1) p
/-- how long the packet in the box can still go -/
def muW (N : Nat) (W : World) : Nat :=
  (match W.cell? ⟨N, 3, none⟩ with | some (.int _ t) => t.toNat | _ => 0) + (match W.cell? ⟨N, 4, none⟩ with | some (.slice _ n _) => n | _ => 0)
theorem muW_of {N n c : Nat} {t : Int} {A : Option Addr} {W : World} (h3 : W.cell? ⟨N, 3, none⟩ = some (.int .i64 t)) (h4 : W.cell? ⟨N, 4, none⟩ = some (.slice A n c)) : muW N W = t.toNat + n := by
  unfold muW
  rw [h3, h4]
end Go.Proofs.YtplppbgkkfjknaaGreatDoor
namespace Go.Proofs.YtplppbgkkfjknaaGreatDoor
open Go.RowKit

set_option linter.unusedVariables false
set_option linter.unusedSimpArgs false
def FwI (w : World) (fv : List Value) (es : List Ent) (gs : List GE) (ls : List Int) (bs : List EV) (ns : List NH) (ds : List Bool) (R : PD × PV × Int) (W : World) : Prop :=
  ∃ (f : Nat) (q : PD) (A : Option Addr) (n c : Nat), Hid (mu q < f ∧ fwdF es gs ls bs ns ds f q = R) ∧ Hid (Blk W w.heap.size 35 fv) ∧ Hid (Blk W (w.heap.size + 1) 54 [.int .u32 q.src, .int .u32 q.dst, .int .u32 q.flow, .int .i64 q.ttl, .slice A n c]) ∧
    Hid (Blk W (w.heap.size + 1 + 1) 54 [.int .u32 0, .int .u32 0, .int .u32 0, .int .i64 0, .slice none 0 0]) ∧ Hid (Blk W (w.heap.size + 1 + 1 + 1) 57 [.int .i64 0, .int .u32 0, .int .u32 0, .int .i64 0, .slice none 0 0, .int .i64 0]) ∧ Hid (Ints W W.heap.size .i64 A n c q.ls ∧ (0 < n → ∀ ad, A = some ad → ad.block ≠ w.heap.size + 1)) ∧
    Hid ((∀ x ∈ q.ls, -9223372036854775808 ≤ x ∧ x ≤ 9223372036854775807) ∧ (0 ≤ q.src ∧ q.src < 4294967296) ∧ (0 ≤ q.dst ∧ q.dst < 4294967296) ∧ (0 ≤ q.flow ∧ q.flow < 4294967296) ∧ (-9223372036854775808 ≤ q.ttl ∧ q.ttl ≤ 9223372036854775807) ∧ n ≤ 1000000) ∧ Hid (Below w.heap.size w W)
set_option maxRecDepth 100000 in
set_option maxHeartbeats 8000000 in
theorem forward_fib_any (tA gA lA bA nA : Option Addr) (tn tc gn gc ln lc bn bc nn nc : Nat) (dA A : Option Addr) (dn dc n c B : Nat) (es : List Ent) (gs : List GE) (ls : List Int) (bs : List EV) (ns : List NH) (p : PD) (ds : List Bool) (w : World) (hx : FibAt w B tA gA lA bA nA tn tc gn gc ln lc bn bc nn nc es gs ls bs ns) (hd : Bls w B dA dn dc ds) (hp : Ints w B .i64 A n c p.ls) (hB : B ≤ w.heap.size)
    (hdn : dn ≤ 140737488355328) (hs : ∀ g ∈ gs, g.n ≤ 1000 ∧ ∀ q ∈ g.ps, q.ls.length ≤ 1000) (hn : n ≤ 1000000) (hpw : ∀ x ∈ p.ls, -9223372036854775808 ≤ x ∧ x ≤ 9223372036854775807) (h0 : 0 ≤ p.src ∧ p.src < 4294967296) (h1 : 0 ≤ p.dst ∧ p.dst < 4294967296) (h2 : 0 ≤ p.flow ∧ p.flow < 4294967296) (ht1 : -9223372036854775808 ≤ p.ttl ∧ p.ttl ≤ 9223372036854775807) :
    Calls Tryz.prog 18 #[.agg #[.slice tA tn tc, .slice gA gn gc, .slice lA ln lc, .slice bA bn bc, .slice nA nn nc], .agg #[.int .u32 p.src, .int .u32 p.dst, .int .u32 p.flow, .int .i64 p.ttl, .slice A n c], .slice dA dn dc] w (GivesOut (forwardR es gs ls bs ns ds p) w) := by
  obtain ⟨w1, hw1⟩ : ∃ w1, (((w.alloc (.cells #[.slice tA tn tc, .slice gA gn gc, .slice lA ln lc, .slice bA bn bc, .slice nA nn nc] 35)).alloc (.cells #[.int .u32 p.src, .int .u32 p.dst, .int .u32 p.flow, .int .i64 p.ttl, .slice A n c] 54)).alloc (.cells #[.int .u32 0, .int .u32 0, .int .u32 0, .int .i64 0, .slice none 0 0] 54)).alloc (.cells #[.int .i64 0, .int .u32 0, .int .u32 0, .int .i64 0, .slice none 0 0, .int .i64 0] 57) = w1 := ⟨_, rfl⟩
  obtain ⟨k0, k1, k2, k3, k4⟩ := four_blks w 35 54 54 57 #[.slice tA tn tc, .slice gA gn gc, .slice lA ln lc, .slice bA bn bc, .slice nA nn nc] #[.int .u32 p.src, .int .u32 p.dst, .int .u32 p.flow, .int .i64 p.ttl, .slice A n c] #[.int .u32 0, .int .u32 0, .int .u32 0, .int .i64 0, .slice none 0 0] #[.int .i64 0, .int .u32 0, .int .u32 0, .int .i64 0, .slice none 0 0, .int .i64 0]
  rw [hw1] at k0 k1 k2 k3 k4
  have HXW : Hid (∀ W, Below w.heap.size w W → FibAt W W.heap.size tA gA lA bA nA tn tc gn gc ln lc bn bc nn nc es gs ls bs ns) := fun W h => (hx.below (h.mono hB)).more (by have := h.size; omega)
  have HDW : Hid (∀ W, Below w.heap.size w W → Bls W W.heap.size dA dn dc ds) := fun W h => Recs.more (Recs.below hd (h.mono hB)) (by have := h.size; omega)
  have HXB := Lib.hid hx
  have HDB := Lib.hid hd
  have HS := Lib.hid hs
  have hpb := hp.below (k4.mono hB)
  have hk4s := k4.size
  obtain ⟨Rz, hRz⟩ : ∃ Rz, forwardR es gs ls bs ns ds p = Rz := ⟨_, rfl⟩
  have HI0 : Hid (FwI w [.slice tA tn tc, .slice gA gn gc, .slice lA ln lc, .slice bA bn bc, .slice nA nn nc] es gs ls bs ns ds Rz w1) :=
    ⟨mu p + 1, p, A, n, c, Lib.hid ⟨Nat.lt_succ_self _, hRz⟩, k0, k1, k2, k3, Lib.hid ⟨hpb.more (by omega), fun h0 ad e => by
      obtain ⟨b, o, e2, hbb, _⟩ := hp.2.2.2 (by omega)
      rw [e] at e2
      injection e2 with e2
      subst e2
      show b ≠ _
      omega⟩, Lib.hid ⟨hpw, h0, h1, h2, ht1, hn⟩, k4⟩
  rw [hRz]
  clear k0 k1 k2 k3 k4 hx hd hp hs hpb hpw h0 h1 h2 ht1 hRz hk4s hn
  go_enter Tryz.func18, Tryz.ntmps18
  go_wp2
  go_loopw [] (fun wr => FwI w [.slice tA tn tc, .slice gA gn gc, .slice lA ln lc, .slice bA bn bc, .slice nA nn nc] es gs ls bs ns ds Rz wr) (fun wr => muW (w.heap.size + 1) wr)
  case atStart => exact HI0.out
  case round =>
    obtain ⟨f, q, A2, n2, c2, hf, hF, hK, hP, hQ, hL, hW, hB2⟩ := hrel
    clear HI0 hw1
    obtain ⟨qs, qd, qf, qt, ql⟩ := q
    dsimp only at hF hK hL hW
    obtain ⟨hwl, hq0, hq1, hq2, hq3, hn2⟩ := hW.out
    have hlen : ql.length = n2 := hL.out.1.len
    have f0 := hF.out.cell 0
    have f1 := hF.out.cell 1
    have f2 := hF.out.cell 2
    have f3 := hF.out.cell 3
    have f4 := hF.out.cell 4
    have k0 := hK.out.cell 0
    have k1 := hK.out.cell 1
    have k2 := hK.out.cell 2
    have k3 := hK.out.cell 3
    have k4 := hK.out.cell 4
    simp only [List.getElem?_cons_zero, List.getElem?_cons_succ] at f0 f1 f2 f3 f4 k0 k1 k2 k3 k4
    have hlF := hF.out.lt
    have hlK := hK.out.lt
    have hlQ := hQ.out.lt
    have hmu := muW_of k3 k4
    by_cases hz : n2 = 0
    · subst hz
      obtain ⟨f, rfl⟩ : ∃ g, f = g + 1 := ⟨f - 1, by have := hf.out.1; omega⟩
      have HR : Hid (addrR es gs ls ⟨qs, qd, qf, qt, ql⟩ ds = Rz) := by
        show _ = _
        rw [← hf.out.2, fwdF, if_pos hlen]
      have HX := HXW.out _ hB2.out
      have HC := Lib.hid (addr_fib_any tA gA lA bA nA tn tc gn gc ln lc bn bc nn nc dA A2 dn dc 0 c2 wr.heap.size es gs ls ⟨qs, qd, qf, qt, ql⟩ ds wr HX.t HX.g HX.l (HDW.out _ hB2.out) hL.out.1 (Nat.le_refl _) HX.tn HX.ln hdn HS.out (by omega) hq0 hq1 hq2 hq3)
      rw [HR.out] at HC
      dsimp only at HC
      clear HX hmu hlen hwl HR hf hL hW
      go_wp2_with fail
      refine HC.out.mono ?_
      rintro e w3 ⟨A6, n6, c6, A7, n7, c7, rfl, hi6, hi7, ho6, ho7, hb3⟩
      have HP3 := Lib.hid (hP.out.keep hb3)
      have HQ3 := Lib.hid (hQ.out.keep hb3)
      have HB3 := Lib.hid (below3 hB2.out hb3)
      obtain ⟨HQz, HPz1, HPz2, HBz, HKz⟩ := out_facts [.int .u32 Rz.1.src, .int .u32 Rz.1.dst, .int .u32 Rz.1.flow, .int .i64 Rz.1.ttl, .slice A6 n6 c6] [.int .i64 Rz.2.1.iface, .int .u32 Rz.2.1.addr, .int .u32 Rz.2.1.router, .int .i64 Rz.2.1.weight, .slice A7 n7 c7, .int .i64 Rz.2.1.backup] HP3.out HQ3.out HB3.out (Nat.le_refl _)
      have hsB := hB2.out.size
      have HEND : Hid (∀ W, Below w.heap.size w W → Keep (fun q => q ≠ w.heap.size + 1 + 1 ∧ q ≠ w.heap.size + 1 + 1 + 1) w3 W → GivesOut Rz w (.returned (.tuple #[.agg #[.int .u32 Rz.1.src, .int .u32 Rz.1.dst, .int .u32 Rz.1.flow, .int .i64 Rz.1.ttl, .slice A6 n6 c6], .agg #[.int .i64 Rz.2.1.iface, .int .u32 Rz.2.1.addr, .int .u32 Rz.2.1.router, .int .i64 Rz.2.1.weight, .slice A7 n7 c7, .int .i64 Rz.2.1.backup], .int .i64 Rz.2.2])) W) := by
        intro W hW2 hkW
        have hsW := hkW.size
        refine ⟨A6, n6, c6, A7, n7, c7, rfl, (ints_kp hi6 hkW (Nat.le_refl _) (fun _ ad e => by have := ho6 ad e; omega)).more hsW, (ints_kp hi7 hkW (Nat.le_refl _) (fun _ ad e => by have := ho7 ad e; omega)).more hsW, fun ad e => by have := ho6 ad e; omega, fun ad e => by have := ho7 ad e; omega, hW2⟩
      clear hi6 hi7 ho6 ho7 hb3 HC
      go_wp2_with (first | (refine wpList_store_blk (cs := [.int .u32 Rz.1.src, .int .u32 Rz.1.dst, .int .u32 Rz.1.flow, .int .i64 Rz.1.ttl, .slice A6 n6 c6]) rfl 54 _ _ rfl (w.heap.size + 1 + 1) rfl rfl HP3.out (by kernel_rfl) rfl (by kernel_rfl) ?_) | (refine wpList_store_blk (cs := [.int .i64 Rz.2.1.iface, .int .u32 Rz.2.1.addr, .int .u32 Rz.2.1.router, .int .i64 Rz.2.1.weight, .slice A7 n7 c7, .int .i64 Rz.2.1.backup]) rfl 57 _ _ rfl (w.heap.size + 1 + 1 + 1) rfl rfl HQz.out (by kernel_rfl) rfl (by kernel_rfl) ?_))
      refine bodyPost_ret (results_cells3 rfl _ (w.heap.size + 1 + 1) (w.heap.size + 1 + 1 + 1) _ _ rfl rfl HPz1.out HPz2.out Tryz.underlying54 rfl (by kernel_rfl) Tryz.underlying57 rfl (by kernel_rfl)) rfl ?_
      exact HEND.out _ HBz.out HKz.out
    · obtain ⟨f, rfl⟩ : ∃ g, f = g + 1 := ⟨f - 1, by have := hf.out.1; omega⟩
      have HX := HXW.out _ hB2.out
      have HC := Lib.hid (forward_any bA A2 bn bc n2 c2 bs ⟨qs, qd, qf, qt, ql⟩ wr HX.b HX.bp HX.bn hL.out.1 (by omega) hwl hq2 hq3)
      obtain ⟨Y, hY⟩ : ∃ Y, fwd bs ⟨qs, qd, qf, qt, ql⟩ = Y := ⟨_, rfl⟩
      have HKP : Hid (Y.2.2 = 0 → Kept ⟨qs, qd, qf, qt, ql⟩ Y.1 Y.2.1) := by
        intro h
        rw [← hY] at h ⊢
        exact fwd_kept h
      have HRE : Hid ((if Y.2.2 = 23 then (zeroPD, zeroP, (3 : Int)) else if Y.2.2 ≠ 0 then (zeroPD, zeroP, 2) else if Y.2.1 = 0 then fwdF es gs ls bs ns ds f Y.1 else match nearR Y.2.1 ds ns with
          | none => (zeroPD, zeroP, 4)
          | some h => (Y.1, (⟨h.iface, h.addr, h.router, 1, none, 0, 0, [], -1⟩ : PV), 0)) = Rz) := by
        show _ = _
        rw [← hf.out.2, ← hY]
        conv => rhs; rw [fwdF, if_neg (by dsimp only; omega)]
        all_goals rfl
      rw [hY] at HC
      obtain ⟨⟨xs, xd, xf, xt, xl⟩, r, er⟩ := Y
      dsimp only at HC HKP HRE
      have HNW : Hid (∀ W, Below w.heap.size w W → Nears W W.heap.size nA nn nc ns) := fun W h => (HXW.out W h).n
      have hnn := HX.nn
      have HFM : Hid (mu ⟨qs, qd, qf, qt, ql⟩ < f + 1) := hf.out.1
      have HLEN := Lib.hid hlen
      have HWL := Lib.hid hwl
      have HMU := Lib.hid hmu
      have hsB := hB2.out.size
      clear HX hY hf hL hwl hlen hmu
      go_wp2_with fail
      refine HC.out.mono ?_
      rintro e w3 ⟨v, rfl, ⟨A6, n6, c6, rfl, ho6⟩, hb3⟩
      have hs3 := hb3.size
      obtain ⟨w4, hw4⟩ : ∃ w4, w3.alloc (.cells #[.int .u32 xs, .int .u32 xd, .int .u32 xf, .int .i64 xt, .slice A6 n6 c6] 54) = w4 := ⟨_, rfl⟩
      have hb4 : Below w3.heap.size w3 w4 := by rw [← hw4]; exact belowA _ _
      have hb34 := below3 hb3 hb4
      have hs4 := hb4.size
      have HN4 : Hid (Blk w4 w3.heap.size 54 [.int .u32 xs, .int .u32 xd, .int .u32 xf, .int .i64 xt, .slice A6 n6 c6]) := by show Blk _ _ _ _; rw [← hw4]; exact Blk.new w3 _ _
      have HF4 := Lib.hid (hF.out.keep hb34)
      have HK4 := Lib.hid (hK.out.keep hb34)
      have HP4 := Lib.hid (hP.out.keep hb34)
      have HQ4 := Lib.hid (hQ.out.keep hb34)
      have HB4 := Lib.hid (below3 hB2.out hb34)
      have HI4 : Hid (Ints w4 w3.heap.size .i64 A6 n6 c6 xl) := ho6.ints.below hb4
      have HO6 : Hid (∀ ad, A6 = some ad → wr.heap.size ≤ ad.block ∧ ad.block < w3.heap.size) := fun ad e => World.ownsRow.lt ho6 ad.block (by rw [e]; rfl)
      have hxl : xl.length = n6 := ho6.len
      have F0 := HF4.out.cell 0
      have F1 := HF4.out.cell 1
      have F2 := HF4.out.cell 2
      have F3 := HF4.out.cell 3
      have F4 := HF4.out.cell 4
      have N0 := HN4.out.cell 0
      have N1 := HN4.out.cell 1
      have N2 := HN4.out.cell 2
      have N3 := HN4.out.cell 3
      have N4 := HN4.out.cell 4
      simp only [List.getElem?_cons_zero, List.getElem?_cons_succ] at F0 F1 F2 F3 F4 N0 N1 N2 N3 N4
      have hlF4 := HF4.out.lt
      have hlN4 := HN4.out.lt
      have hlK4 := HK4.out.lt
      clear ho6 hb3 hb4 hb34 HC f0 f1 f2 f3 f4 k0 k1 k2 k3 k4
      by_cases he23 : er = 23
      · have HF : Hid (Rz = (zeroPD, zeroP, 3)) := by show _ = _; rw [← HRE.out, if_pos he23]
        have d1 : (er == 23) = true := by simp [he23]
        clear he23
        obtain ⟨HQz, HPz1, HPz2, HBz, _⟩ := out_facts [.int .u32 0, .int .u32 0, .int .u32 0, .int .i64 0, .slice none 0 0] [.int .i64 0, .int .u32 0, .int .u32 0, .int .i64 0, .slice none 0 0, .int .i64 0] HP4.out HQ4.out HB4.out (Nat.le_refl _)
        go_wp2_with (first | (refine wpList_store_blk rfl 54 _ _ rfl (w.heap.size + 1 + 1) rfl rfl HP4.out (by kernel_rfl) rfl (by kernel_rfl) ?_) | (refine wpList_store_blk rfl 57 _ _ rfl (w.heap.size + 1 + 1 + 1) rfl rfl HQz.out (by kernel_rfl) rfl (by kernel_rfl) ?_))
        refine bodyPost_ret (results_cells3 rfl _ (w.heap.size + 1 + 1) (w.heap.size + 1 + 1 + 1) _ _ rfl rfl HPz1.out HPz2.out Tryz.underlying54 rfl (by kernel_rfl) Tryz.underlying57 rfl (by kernel_rfl)) rfl ?_
        rw [HF.out]
        exact ⟨none, 0, 0, none, 0, 0, rfl, ints_nil _ _, ints_nil _ _, fun _ h => (by cases h), fun _ h => (by cases h), HBz.out⟩
      have d1 : (er == 23) = false := by simp [he23]
      by_cases he0 : er = 0
      case neg =>
        have HF : Hid (Rz = (zeroPD, zeroP, 2)) := by show _ = _; rw [← HRE.out, if_neg he23, if_pos he0]
        have d2 : (er != 0) = true := by simp [he0]
        clear he23 he0
        obtain ⟨HQz, HPz1, HPz2, HBz, _⟩ := out_facts [.int .u32 0, .int .u32 0, .int .u32 0, .int .i64 0, .slice none 0 0] [.int .i64 0, .int .u32 0, .int .u32 0, .int .i64 0, .slice none 0 0, .int .i64 0] HP4.out HQ4.out HB4.out (Nat.le_refl _)
        go_wp2_with (first | (refine wpList_store_blk rfl 54 _ _ rfl (w.heap.size + 1 + 1) rfl rfl HP4.out (by kernel_rfl) rfl (by kernel_rfl) ?_) | (refine wpList_store_blk rfl 57 _ _ rfl (w.heap.size + 1 + 1 + 1) rfl rfl HQz.out (by kernel_rfl) rfl (by kernel_rfl) ?_))
        refine bodyPost_ret (results_cells3 rfl _ (w.heap.size + 1 + 1) (w.heap.size + 1 + 1 + 1) _ _ rfl rfl HPz1.out HPz2.out Tryz.underlying54 rfl (by kernel_rfl) Tryz.underlying57 rfl (by kernel_rfl)) rfl ?_
        rw [HF.out]
        exact ⟨none, 0, 0, none, 0, 0, rfl, ints_nil _ _, ints_nil _ _, fun _ h => (by cases h), fun _ h => (by cases h), HBz.out⟩
      subst he0
      clear he23 d1
      have HR2 := HRE.out
      rw [if_neg (by omega), if_neg (by simp)] at HR2
      have HKQ := Lib.hid (HKP.out rfl)
      clear HRE HKP
      by_cases hr0 : r = 0
      · subst hr0
        rw [if_pos rfl] at HR2
        have K := HKQ.out
        have hfl := K.flow
        have hsrc := K.src
        have hdst := K.dst
        have hlen2 := K.len
        have httl : xt = qt := by
          rcases K.ttl with ⟨_, h⟩ | ⟨h, _⟩
          · exact h
          · exact absurd rfl h
        dsimp only at hfl hsrc hdst hlen2
        have hm := K.mu
        have hl0 := HLEN.out
        subst hfl hsrc hdst httl
        obtain ⟨wz, hwz⟩ : ∃ wz, w4.setRow (w.heap.size + 1) #[.int .u32 xs, .int .u32 xd, .int .u32 xf, .int .i64 xt, .slice A6 n6 c6] = wz := ⟨_, rfl⟩
        have hsv : Save (w.heap.size + 1) w4 wz := by rw [← hwz]; exact Save.row _ _ _
        have hsz := hsv.size
        have HKz : Hid (Blk wz (w.heap.size + 1) 54 [.int .u32 xs, .int .u32 xd, .int .u32 xf, .int .i64 xt, .slice A6 n6 c6]) := by show Blk _ _ _ _; rw [← hwz]; exact HK4.out.row _
        have HFz := Lib.hid (HF4.out.save hsv (by omega))
        have HPz := Lib.hid (HP4.out.save hsv (by omega))
        have HQz := Lib.hid (HQ4.out.save hsv (by omega))
        have HBz : Hid (Below w.heap.size w wz) := HB4.out.trans (hsv.below (by omega) HB4.out.size)
        have HNEW : Hid (FwI w [.slice tA tn tc, .slice gA gn gc, .slice lA ln lc, .slice bA bn bc, .slice nA nn nc] es gs ls bs ns ds Rz wz) :=
          ⟨f, ⟨xs, xd, xf, xt, xl⟩, A6, n6, c6, Lib.hid ⟨by have := HFM.out; omega, HR2⟩, HFz, HKz, HPz, HQz, Lib.hid ⟨(ints_save HI4.out hsv (by omega) (fun _ ad e => by have := HO6.out ad e; omega)).more (by omega), fun _ ad e => by have := HO6.out ad e; omega⟩,
            Lib.hid ⟨fun x hx => by
              rcases K.ls x hx with h | h
              · exact HWL.out x h
              · omega, hq0, hq1, hq2, hq3, by omega⟩, HBz⟩
        have HMZ : Hid (muW (w.heap.size + 1) wz = xt.toNat + n6) := muW_of (HKz.out.cell 3) (HKz.out.cell 4)
        have hmm : xt.toNat + n6 < xt.toNat + n2 := by
          have h1 : xt.toNat + xl.length < xt.toNat + ql.length := hm
          omega
        clear K hm hl0 hlen2 hsv HKQ HR2
        go_wp2_with (refine wpList_store_blk rfl 54 _ _ rfl (w.heap.size + 1) rfl rfl HK4.out (by kernel_rfl) rfl (by kernel_rfl) ?_)
        try rw [hwz]
        try simp only [Act.put]
        go_roundw
        case rel => exact HNEW.out
        case measure => rw [HMZ.out, HMU.out]; exact hmm
      rw [if_neg hr0] at HR2
      have HR3 := Lib.hid HR2
      have d3 : (r == 0) = false := by simp [hr0]
      clear HR2 hr0
      have HC5 := Lib.hid (neighbor_any tA gA lA bA nA tn tc gn gc ln lc bn bc nn nc dA dn dc w4.heap.size ns ds r w4 (HNW.out _ HB4.out) (HDW.out _ HB4.out) (Nat.le_refl _) hnn)
      obtain ⟨X, hX⟩ : ∃ X, nearR r ds ns = X := ⟨_, rfl⟩
      rw [hX] at HC5 HR3
      clear hX
      go_wp2_with fail
      try rw [hw4]
      refine HC5.out.mono ?_
      rintro e w5 ⟨he, hb5⟩
      have hs5 := hb5.size
      have HP5 := Lib.hid (HP4.out.keep hb5)
      have HQ5 := Lib.hid (HQ4.out.keep hb5)
      have HN5 := Lib.hid (HN4.out.keep hb5)
      have HB5 := Lib.hid (below3 HB4.out hb5)
      have HI5 : Hid (Ints w5 w3.heap.size .i64 A6 n6 c6 xl) := HI4.out.below (hb5.mono (by omega))
      have hlP5 := HP5.out.lt
      have hlQ5 := HQ5.out.lt
      clear HC5 hb5 hw4
      cases X with
      | none =>
        have he2 : e = .returned (.tuple #[.agg #[.int .i64 0, .int .u32 0, .int .u32 0, .int .i64 0, .slice none 0 0, .int .i64 0], .bool false]) := he
        subst he2
        clear he
        have HF : Hid (Rz = (zeroPD, zeroP, 4)) := HR3.out.symm
        obtain ⟨w6, hw6⟩ : ∃ w6, w5.alloc (.cells #[.int .i64 0, .int .u32 0, .int .u32 0, .int .i64 0, .slice none 0 0, .int .i64 0] 57) = w6 := ⟨_, rfl⟩
        have hb6 : Below w5.heap.size w5 w6 := by rw [← hw6]; exact belowA _ _
        have HE6 : Hid (Blk w6 w5.heap.size 57 [.int .i64 0, .int .u32 0, .int .u32 0, .int .i64 0, .slice none 0 0, .int .i64 0]) := by show Blk _ _ _ _; rw [← hw6]; exact Blk.new w5 _ _
        have hsr := Save.row w5.heap.size w6 #[.int .i64 0, .int .u32 0, .int .u32 0, .int .i64 0, .slice none 0 0, .int .i64 0]
        have HB6 := below3 HB5.out hb6
        have HB7 : Hid (Below w.heap.size w (w6.setRow w5.heap.size #[.int .i64 0, .int .u32 0, .int .u32 0, .int .i64 0, .slice none 0 0, .int .i64 0])) := HB6.trans (hsr.below (by have := HB5.out.size; omega) HB6.size)
        have HP7 : Hid (Blk (w6.setRow w5.heap.size #[.int .i64 0, .int .u32 0, .int .u32 0, .int .i64 0, .slice none 0 0, .int .i64 0]) (w.heap.size + 1 + 1) 54 [.int .u32 0, .int .u32 0, .int .u32 0, .int .i64 0, .slice none 0 0]) := (HP5.out.keep hb6).save hsr (by omega)
        have HQ7 : Hid (Blk (w6.setRow w5.heap.size #[.int .i64 0, .int .u32 0, .int .u32 0, .int .i64 0, .slice none 0 0, .int .i64 0]) (w.heap.size + 1 + 1 + 1) 57 [.int .i64 0, .int .u32 0, .int .u32 0, .int .i64 0, .slice none 0 0, .int .i64 0]) := (HQ5.out.keep hb6).save hsr (by omega)
        clear hb6 HB6 hsr
        obtain ⟨HQz, HPz1, HPz2, HBz, _⟩ := out_facts [.int .u32 0, .int .u32 0, .int .u32 0, .int .i64 0, .slice none 0 0] [.int .i64 0, .int .u32 0, .int .u32 0, .int .i64 0, .slice none 0 0, .int .i64 0] HP7.out HQ7.out HB7.out (Nat.le_refl _)
        go_wp2_with (first | (refine wpList_store_blk rfl 57 _ _ rfl w5.heap.size rfl rfl HE6.out (by kernel_rfl) rfl (by kernel_rfl) ?_) | (refine wpList_store_blk rfl 54 _ _ rfl (w.heap.size + 1 + 1) rfl rfl HP7.out (by kernel_rfl) rfl (by kernel_rfl) ?_) | (refine wpList_store_blk rfl 57 _ _ rfl (w.heap.size + 1 + 1 + 1) rfl rfl HQz.out (by kernel_rfl) rfl (by kernel_rfl) ?_))
        refine bodyPost_ret (results_cells3 rfl _ (w.heap.size + 1 + 1) (w.heap.size + 1 + 1 + 1) _ _ rfl rfl HPz1.out HPz2.out Tryz.underlying54 rfl (by kernel_rfl) Tryz.underlying57 rfl (by kernel_rfl)) rfl ?_
        rw [HF.out]
        exact ⟨none, 0, 0, none, 0, 0, rfl, ints_nil _ _, ints_nil _ _, fun _ h => (by cases h), fun _ h => (by cases h), HBz.out⟩
      | some h =>
        obtain ⟨hi, ha, hr⟩ := h
        have he2 : e = .returned (.tuple #[.agg #[.int .i64 hi, .int .u32 ha, .int .u32 hr, .int .i64 1, .slice none 0 0, .int .i64 (-1)], .bool true]) := he
        subst he2
        clear he
        have HF : Hid (Rz = ((⟨xs, xd, xf, xt, xl⟩ : PD), (⟨hi, ha, hr, 1, none, 0, 0, [], -1⟩ : PV), 0)) := HR3.out.symm
        obtain ⟨w6, hw6⟩ : ∃ w6, w5.alloc (.cells #[.int .i64 hi, .int .u32 ha, .int .u32 hr, .int .i64 1, .slice none 0 0, .int .i64 (-1)] 57) = w6 := ⟨_, rfl⟩
        have hb6 : Below w5.heap.size w5 w6 := by rw [← hw6]; exact belowA _ _
        have HE6 : Hid (Blk w6 w5.heap.size 57 [.int .i64 hi, .int .u32 ha, .int .u32 hr, .int .i64 1, .slice none 0 0, .int .i64 (-1)]) := by show Blk _ _ _ _; rw [← hw6]; exact Blk.new w5 _ _
        obtain ⟨wE, hwE⟩ : ∃ wE, w6.drew = wE := ⟨_, rfl⟩
        have hbE : Below w6.heap.size w6 wE := by rw [← hwE]; exact (Below.refl _ _).drew
        have hb6E := below3 hb6 hbE
        have hsE := hb6E.size
        have HPE := Lib.hid (HP5.out.keep hb6E)
        have HQE := Lib.hid (HQ5.out.keep hb6E)
        have HBE := Lib.hid (below3 HB5.out hb6E)
        have HIE : Hid (Ints wE w3.heap.size .i64 A6 n6 c6 xl) := HI5.out.below (hb6E.mono (by omega))
        have HSE : Hid (Blk wE w3.heap.size 54 [.int .u32 xs, .int .u32 xd, .int .u32 xf, .int .i64 xt, .slice A6 n6 c6] ∧ Blk wE w5.heap.size 57 [.int .i64 hi, .int .u32 ha, .int .u32 hr, .int .i64 1, .slice none 0 0, .int .i64 (-1)]) := ⟨HN5.out.keep hb6E, HE6.out.keep hbE⟩
        have HEND : Hid (∀ W, Below w.heap.size w W → Keep (fun q => q ≠ w.heap.size + 1 + 1 ∧ q ≠ w.heap.size + 1 + 1 + 1) wE W → GivesOut ((⟨xs, xd, xf, xt, xl⟩ : PD), (⟨hi, ha, hr, 1, none, 0, 0, [], -1⟩ : PV), 0) w (.returned (.tuple #[.agg #[.int .u32 xs, .int .u32 xd, .int .u32 xf, .int .i64 xt, .slice A6 n6 c6], .agg #[.int .i64 hi, .int .u32 ha, .int .u32 hr, .int .i64 1, .slice none 0 0, .int .i64 (-1)], .int .i64 0])) W) := by
          intro W hW2 hkW
          have hsW := hkW.size
          exact ⟨A6, n6, c6, none, 0, 0, rfl, (ints_kp HIE.out hkW (by omega) (fun _ ad e => by have := HO6.out ad e; omega)).more (by omega), ints_nil _ _, fun ad e => by have := HO6.out ad e; omega, fun ad e => (by cases e), hW2⟩
        clear hb6 hbE hb6E
        go_upto_region 12 with fail
        try rw [hw6]
        refine wp_region_noPanic ?_
        refine wp_region_held_drew (S := fun V => Blk V w3.heap.size 54 [.int .u32 xs, .int .u32 xd, .int .u32 xf, .int .i64 xt, .slice A6 n6 c6] ∧ Blk V w5.heap.size 57 [.int .i64 hi, .int .u32 ha, .int .u32 hr, .int .i64 1, .slice none 0 0, .int .i64 (-1)]) (by kernel_rfl) (by rw [hwE]; exact HSE.out) (fun hHeld => ?_)
        rw [hwE] at hHeld ⊢
        clear hwE hw6
        refine take_in (i := 0) _ (some 51) (by kernel_rfl) (by kernel_rfl) (by kernel_rfl) (by kernel_rfl) (fun _ _ _ h => h) (by rfl) (fun o ho w hSw => by cases ho; exact run_load_blk _ _ rfl _ rfl (hSw.1) _ Tryz.underlying54 rfl (by kernel_rfl)) hHeld ?_
        try simp only [Act.put, List.setIfInBounds_toArray, List.set_cons_zero, List.set_cons_succ]
        refine take_in (i := 1) _ (some 52) (by kernel_rfl) (by kernel_rfl) (by kernel_rfl) (by kernel_rfl) (fun _ _ _ h => h) (by rfl) (fun o ho w hSw => by cases ho; exact run_load_blk _ _ rfl _ rfl (hSw.2) _ Tryz.underlying57 rfl (by kernel_rfl)) hHeld ?_
        try simp only [Act.put, List.setIfInBounds_toArray, List.set_cons_zero, List.set_cons_succ]
        refine wpAnyH_ready (rs := [2]) (by kernel_rfl) (by simp) ?_
        refine AllReadyH.cons (o := _) rfl (fun K hK => ?_) AllReadyH.nil
        obtain ⟨HQz, HPz1, HPz2, HBz, HKz⟩ := out_facts [.int .u32 xs, .int .u32 xd, .int .u32 xf, .int .i64 xt, .slice A6 n6 c6] [.int .i64 hi, .int .u32 ha, .int .u32 hr, .int .i64 1, .slice none 0 0, .int .i64 (-1)] HPE.out HQE.out HBE.out (Nat.le_refl _)
        have HSE1 := Lib.hid (two_save HSE.out (Save.row (w.heap.size + 1 + 1) wE [.int .u32 xs, .int .u32 xd, .int .u32 xf, .int .i64 xt, .slice A6 n6 c6].toArray) (by omega) (by omega))
        have HSE2 := Lib.hid (two_save HSE1.out (Save.row (w.heap.size + 1 + 1 + 1) (wE.setRow (w.heap.size + 1 + 1) [.int .u32 xs, .int .u32 xd, .int .u32 xf, .int .i64 xt, .slice A6 n6 c6].toArray) [.int .i64 hi, .int .u32 ha, .int .u32 hr, .int .i64 1, .slice none 0 0, .int .i64 (-1)].toArray) (by omega) (by omega))
        refine step_store_blk [.int .u32 xs, .int .u32 xd, .int .u32 xf, .int .i64 xt, .slice A6 n6 c6] rfl rfl 54 _ _ rfl (w.heap.size + 1 + 1) rfl rfl HPE.out (by kernel_rfl) rfl (by kernel_rfl) ?_
        refine hK.out _ _ HSE1.out (fun hHeld => ?_)
        clear hK K
        try simp only [Act.put, List.setIfInBounds_toArray, List.set_cons_zero, List.set_cons_succ]
        refine wpAnyH_ready (rs := [3]) (by kernel_rfl) (by simp) ?_
        refine AllReadyH.cons (o := _) rfl (fun K hK => ?_) AllReadyH.nil
        refine step_store_blk [.int .i64 hi, .int .u32 ha, .int .u32 hr, .int .i64 1, .slice none 0 0, .int .i64 (-1)] rfl rfl 57 _ _ rfl (w.heap.size + 1 + 1 + 1) rfl rfl HQz.out (by kernel_rfl) rfl (by kernel_rfl) ?_
        refine hK.out _ _ HSE2.out (fun hHeld => ?_)
        clear hK K
        try simp only [Act.put, List.setIfInBounds_toArray, List.set_cons_zero, List.set_cons_succ]
        refine take_in (i := 4) _ (some 8) (by kernel_rfl) (by kernel_rfl) (by kernel_rfl) (by kernel_rfl) (fun _ _ _ h => h) (by rfl) (fun o ho w hSw => by cases ho; (try dsimp only at hSw); (try go_split_ands); go_simp; (try with_reducible rfl)) hHeld ?_
        try simp only [Act.put, List.setIfInBounds_toArray, List.set_cons_zero, List.set_cons_succ]
        refine wpAnyH_done (by kernel_rfl) ?_ _
        refine NoPanic.normal ?_
        go_wp2
        refine bodyPost_ret (results_cells3 rfl _ (w.heap.size + 1 + 1) (w.heap.size + 1 + 1 + 1) _ _ rfl rfl HPz1.out HPz2.out Tryz.underlying54 rfl (by kernel_rfl) Tryz.underlying57 rfl (by kernel_rfl)) rfl ?_
        rw [HF.out]
        exact HEND.out _ HBz.out HKz.out
end Go.Proofs.YtplppbgkkfjknaaGreatDoor
