/- The small functions of the layer: has, cluster, reflected, confed. -/
import Derived.Test.YtojgohgeagbkbaaAtt
import Derived.Test.YtojgohgeagbkbaaStrip
namespace Go.Proofs.Ytojgohgeagbkbaa
open Go.RowKit

set_option linter.unusedVariables false

/-- a peer -/
structure PeerV where
  kind : Int
  asn : Int
  addr : Int
  loc : Int
  client : Bool
  hold : Int
  rest : Int
  pin : ByteArray
  pout : ByteArray
  self : Bool
  damp : Bool
def PeerV.vals (p : PeerV) : List Value := [.int .i64 p.kind, .int .i64 p.asn, .int .u32 p.addr, .int .u32 p.loc, .bool p.client, .int .i64 p.hold, .int .i64 p.rest, .string p.pin, .string p.pout, .bool p.self, .bool p.damp]
theorem PeerV.vals_len (p : PeerV) : p.vals.length = 11 := rfl
abbrev Peers (w : World) (B : Nat) (A : Option Addr) (n c : Nat) (ps : List PeerV) : Prop := Recs w B 11 A n c PeerV.vals ps
def hasB (i : Int) (n : Nat) : Bool := decide (0 ≤ i) && decide (i < (n : Int))
def clusterR (c r : Int) : Int := if c = 0 then r else c
theorem has41_any (asn cfd rtr clt : Int) (QA na g0 g1 g2 g3 : Option Addr) (qn qc nn nc m0 c0 m1 c1 m2 c2 m3 c3 : Nat) (d0 d1 d2 d3 mul : Int) (i : Int) (w : World) : Calls Try.prog 31 #[.agg #[.int .i64 asn, .int .i64 cfd, .int .u32 rtr, .int .u32 clt, .slice QA qn qc, .slice na nn nc, .slice g0 m0 c0, .slice g1 m1 c1, .slice g2 m2 c2, .slice g3 m3 c3, .int .i64 d0, .int .i64 d1, .int .i64 d2, .int .i64 d3, .int .i64 mul], .int .i64 i] w fun e w' => e = .returned (.bool (hasB i qn)) ∧ Below w.heap.size w w' := by
  by_cases h : i ≥ 0
  · have d : decide (i ≥ 0) = true := by simpa using h
    have HE : Hid (hasB i qn = decide (i < (qn : Int))) := by show _ = _; unfold hasB; rw [show decide (0 ≤ i) = true by simpa using h]; rfl
    clear h
    go_enter Try.func31, Try.ntmps31
    go_wp2
    go_ret
    exact ⟨by rw [HE.out]; rfl, belowA _ _⟩
  · have d : decide (i ≥ 0) = false := by simpa using h
    have HE : Hid (hasB i qn = false) := by show _ = _; unfold hasB; rw [show decide (0 ≤ i) = false by simpa using h]; rfl
    clear h
    go_enter Try.func31, Try.ntmps31
    go_wp2
    go_ret
    exact ⟨by rw [HE.out]; rfl, belowA _ _⟩
theorem refHas41_any (asn cfd rtr clt : Int) (QA na g0 g1 g2 g3 : Option Addr) (qn qc nn nc m0 c0 m1 c1 m2 c2 m3 c3 : Nat) (d0 d1 d2 d3 mul : Int) (i : Int) (w : World) : Calls Try.prog 37 #[.agg #[.int .i64 asn, .int .i64 cfd, .int .u32 rtr, .int .u32 clt, .slice QA qn qc, .slice na nn nc, .slice g0 m0 c0, .slice g1 m1 c1, .slice g2 m2 c2, .slice g3 m3 c3, .int .i64 d0, .int .i64 d1, .int .i64 d2, .int .i64 d3, .int .i64 mul], .int .i64 i] w fun e w' => e = .returned (.bool (hasB i qn)) ∧ Below w.heap.size w w' := by
  by_cases h : i ≥ 0
  · have d : decide (i ≥ 0) = true := by simpa using h
    have HE : Hid (hasB i qn = decide (i < (qn : Int))) := by show _ = _; unfold hasB; rw [show decide (0 ≤ i) = true by simpa using h]; rfl
    clear h
    go_enter Try.func37, Try.ntmps37
    go_wp2
    go_ret
    exact ⟨by rw [HE.out]; rfl, belowA _ _⟩
  · have d : decide (i ≥ 0) = false := by simpa using h
    have HE : Hid (hasB i qn = false) := by show _ = _; unfold hasB; rw [show decide (0 ≤ i) = false by simpa using h]; rfl
    clear h
    go_enter Try.func37, Try.ntmps37
    go_wp2
    go_ret
    exact ⟨by rw [HE.out]; rfl, belowA _ _⟩
theorem cluster_any (asn cfd rtr clt : Int) (QA na g0 g1 g2 g3 : Option Addr) (qn qc nn nc m0 c0 m1 c1 m2 c2 m3 c3 : Nat) (d0 d1 d2 d3 mul : Int) (w : World) : Calls Try.prog 36 #[.agg #[.int .i64 asn, .int .i64 cfd, .int .u32 rtr, .int .u32 clt, .slice QA qn qc, .slice na nn nc, .slice g0 m0 c0, .slice g1 m1 c1, .slice g2 m2 c2, .slice g3 m3 c3, .int .i64 d0, .int .i64 d1, .int .i64 d2, .int .i64 d3, .int .i64 mul]] w fun e w' => e = .returned (.int .u32 (clusterR clt rtr)) ∧ Below w.heap.size w w' := by
  by_cases h : clt = 0
  · subst h
    go_enter Try.func36, Try.ntmps36
    go_wp2
    go_ret
    exact ⟨rfl, belowA _ _⟩
  · have d : (clt == 0) = false := by simpa using h
    have HE : Hid (clusterR clt rtr = clt) := if_neg h
    clear h
    go_enter Try.func36, Try.ntmps36
    go_wp2
    go_ret
    exact ⟨by rw [HE.out]; rfl, belowA _ _⟩
theorem refCluster_any (asn cfd rtr clt : Int) (QA na g0 g1 g2 g3 : Option Addr) (qn qc nn nc m0 c0 m1 c1 m2 c2 m3 c3 : Nat) (d0 d1 d2 d3 mul : Int) (w : World) : Calls Try.prog 25 #[.agg #[.int .i64 asn, .int .i64 cfd, .int .u32 rtr, .int .u32 clt, .slice QA qn qc, .slice na nn nc, .slice g0 m0 c0, .slice g1 m1 c1, .slice g2 m2 c2, .slice g3 m3 c3, .int .i64 d0, .int .i64 d1, .int .i64 d2, .int .i64 d3, .int .i64 mul]] w fun e w' => e = .returned (.int .u32 (clusterR clt rtr)) ∧ Below w.heap.size w w' := by
  by_cases h : clt = 0
  · subst h
    go_enter Try.func25, Try.ntmps25
    go_wp2
    go_ret
    exact ⟨rfl, belowA _ _⟩
  · have d : (clt != 0) = true := by simpa using h
    have HE : Hid (clusterR clt rtr = clt) := if_neg h
    clear h
    go_enter Try.func25, Try.ntmps25
    go_wp2
    go_ret
    exact ⟨by rw [HE.out]; rfl, belowA _ _⟩
def reflB (rk k : Int) : Bool := rk == 3 && k == 3
theorem reflected_any (rpa rpl : Int) (og hop med pref aas aad ori : Int) (hm hp atm ha ho : Bool) (pA cA kA uA : Option Addr) (pn pc cn cc kn kc un uc : Nat) (p us : Path) (cm cl : List Int) (rpeer rkind rrtr : Int) (stale : Bool) (pk pas padr ploc : Int) (pcli : Bool) (phold prest : Int) (pimp pexp : ByteArray) (pself pdamp : Bool) (w : World) : Calls Try.prog 42 #[.agg #[.int .u32 rpa, .int .i64 rpl, .int .i64 og, .slice pA pn pc, .int .u32 hop, .bool hm, .int .i64 med, .bool hp, .int .i64 pref, .bool atm, .bool ha, .int .i64 aas, .int .u32 aad, .slice cA cn cc, .bool ho, .int .u32 ori, .slice kA kn kc, .slice uA un uc, .int .i64 rpeer, .int .i64 rkind, .int .u32 rrtr, .bool stale], .agg #[.int .i64 pk, .int .i64 pas, .int .u32 padr, .int .u32 ploc, .bool pcli, .int .i64 phold, .int .i64 prest, .string pimp, .string pexp, .bool pself, .bool pdamp]] w fun e w' => e = .returned (.bool (reflB rkind pk)) ∧ Below w.heap.size w w' := by
  by_cases h : rkind = 3
  · subst h
    have HB : Hid (∀ a b : Obj, Below w.heap.size w ((w.alloc a).alloc b)) := fun a b => below3 (belowA _ _) (belowA _ _)
    go_enter Try.func42, Try.ntmps42
    go_wp2
    go_ret
    exact ⟨rfl, HB.out _ _⟩
  · have d : (rkind == 3) = false := by simpa using h
    have HE : Hid (reflB rkind pk = false) := by show _ = _; unfold reflB; rw [d]; rfl
    have HB : Hid (∀ a b : Obj, Below w.heap.size w ((w.alloc a).alloc b)) := fun a b => below3 (belowA _ _) (belowA _ _)
    clear h
    go_enter Try.func42, Try.ntmps42
    go_wp2
    go_ret
    exact ⟨by rw [HE.out]; rfl, HB.out _ _⟩
theorem confed41_any (k : Int) (A : Option Addr) (n c : Nat) (w : World) : Calls Try.prog 72 #[.agg #[.int .i64 k, .slice A n c]] w fun e w' => e = .returned (.bool (confB k)) ∧ Below w.heap.size w w' := by
  have e : confB k = ((k == 3) || (k == 4)) := by unfold confB; rw [Bool.decide_or]; rfl
  by_cases h : k = 3
  · subst h
    go_enter Try.func72, Try.ntmps72
    go_wp2
    go_ret
    exact ⟨rfl, belowA _ _⟩
  · have d : (k == 3) = false := by simp [h]
    have HE : Hid (confB k = (k == 4)) := by show _ = _; rw [e, d]; rfl
    clear e h
    go_enter Try.func72, Try.ntmps72
    go_wp2
    go_ret
    exact ⟨by rw [HE.out]; rfl, belowA _ _⟩
end Go.Proofs.Ytojgohgeagbkbaa
