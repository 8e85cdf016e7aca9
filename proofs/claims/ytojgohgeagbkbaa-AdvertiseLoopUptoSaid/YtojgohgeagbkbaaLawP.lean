/- The law AdvertiseLoop: two speakers as an argument; the walk. -/
import Derived.Test.YtojgohgeagbkbaaLrg
import Derived.Test.YtojgohgeagbkbaaPlL
import Derived.Test.YtojgohgeagbkbaaAwk
import Derived.Test.YtojgohgeagbkbaaOpr
import Derived.Deep.MidRow
import Derived.Deep.CutBlock
import Derived.Deep.DeepCutAuto
namespace Go.Proofs.Ytojgohgeagbkbaa
open Go.ChangeShapes Go.WideShapes Go.ChangeAt Go.RowKit

set_option linter.unusedVariables false
set_option linter.unusedSimpArgs false
theorem okWide_array {P : Program} {w : World} {r : Reach} {base : Nat} {t e : TypeId} {n : Nat} {v : Value} (ht : P.underlying t = some (.array n e)) (h : Value.okWide P w r base t v) : ∃ cs, v = .agg cs ∧ cs.size = P.cellsOf t := by
  simp only [Value.okWide, ht] at h
  obtain ⟨cs, h1, h2, _⟩ := h
  exact ⟨cs, h1, h2⟩
/-- two speakers as an argument -/
def TwoIn (W : World) (v : Value) : Prop := ∃ (asn cfd rtr clt : Int) (QA na g0 g1 g2 g3 : Option Addr) (qn qc nn nc m0 c0 m1 c1 m2 c2 m3 c3 : Nat) (d0 d1 d2 d3 mul : Int) (ps : List PeerV) (asno cfdo rtro clto : Int) (QAo nao g0o g1o g2o g3o : Option Addr) (qno qco nno nco m0o c0o m1o c1o m2o c2o m3o c3o : Nat) (d0o d1o d2o d3o mulo : Int) (pso : List PeerV), v = .agg #[.int .i64 asn, .int .i64 cfd, .int .u32 rtr, .int .u32 clt, .slice QA qn qc, .slice na nn nc, .slice g0 m0 c0, .slice g1 m1 c1, .slice g2 m2 c2, .slice g3 m3 c3, .int .i64 d0, .int .i64 d1, .int .i64 d2, .int .i64 d3, .int .i64 mul, .int .i64 asno, .int .i64 cfdo, .int .u32 rtro, .int .u32 clto, .slice QAo qno qco, .slice nao nno nco, .slice g0o m0o c0o, .slice g1o m1o c1o, .slice g2o m2o c2o, .slice g3o m3o c3o, .int .i64 d0o, .int .i64 d1o, .int .i64 d2o, .int .i64 d3o, .int .i64 mulo] ∧ Peers W W.heap.size QA qn qc ps ∧ Peers W W.heap.size QAo qno qco pso
theorem bulk_in {H : Type} {x : DataW H} : ∀ {l : List (DataW H)}, x ∈ l → Rows.uptoBulk x ≤ Rows.uptoBulkAll l
  | [], h => by cases h
  | y :: r, h => by
    simp only [Rows.uptoBulkAll]
    rcases List.mem_cons.1 h with rfl | h
    · omega
    · have := bulk_in h
      omega
set_option maxRecDepth 100000 in
set_option maxHeartbeats 4000000 in
theorem open_two_arg {H : Type} {enc : TypeId × Value → H} {W : World} {r : Reach} {b0 : Nat} {v : Value} {d : DataW H} {pl : List MemPlace} (hv : Value.okWide Try.prog W r b0 63 v) (h : DataW.Trod enc Try.prog W 0 (fun _ => true) true 63 v d pl) (hM : Rows.uptoBulk d ≤ 1048576) : TwoIn W v := by
  obtain ⟨cs, rfl, hsz⟩ := okWide_array Try.underlying63 hv
  obtain ⟨n, hy⟩ := h
  obtain ⟨xs, m, _, hx, _, hlen, hel⟩ := DataW.trod_array Try.underlying63 hy
  have k15 : Try.prog.cellsOf 34 = 15 := by kernel_rfl
  have h30 : cs.size = 30 := hsz.trans (by kernel_rfl)
  rw [k15] at hel
  have arg : ∀ i, (hi : i < 2) → ArgB enc Try.prog W 34 (((Value.agg cs).cells.toList.drop (i * 15)).take 15) 1048576 := by
    intro i hi
    have hix : i < xs.length := by omega
    refine ⟨m, xs[i], (hel i hi).trans (List.getElem?_eq_getElem hix), ?_⟩
    have h1 : d = .agg (xs.map (·.1)) := congrArg Prod.fst hx
    have h2 := bulk_in (x := xs[i].1) (l := xs.map (·.1)) (List.mem_map_of_mem (List.getElem_mem hix))
    rw [h1] at hM
    simp only [Rows.uptoBulk] at hM
    omega
  obtain ⟨asn, cfd, rtr, clt, QA, na, g0, g1, g2, g3, qn, qc, nn, nc, m0, c0, m1, c1, m2, c2, m3, c3, d0, d1, d2, d3, mul, ps, e0, q0, _⟩ := open_conf (arg 0 (by omega))
  obtain ⟨asno, cfdo, rtro, clto, QAo, nao, g0o, g1o, g2o, g3o, qno, qco, nno, nco, m0o, c0o, m1o, c1o, m2o, c2o, m3o, c3o, d0o, d1o, d2o, d3o, mulo, pso, e1, q1, _⟩ := open_conf (arg 1 (by omega))
  refine ⟨asn, cfd, rtr, clt, QA, na, g0, g1, g2, g3, qn, qc, nn, nc, m0, c0, m1, c1, m2, c2, m3, c3, d0, d1, d2, d3, mul, ps, asno, cfdo, rtro, clto, QAo, nao, g0o, g1o, g2o, g3o, qno, qco, nno, nco, m0o, c0o, m1o, c1o, m2o, c2o, m3o, c3o, d0o, d1o, d2o, d3o, mulo, pso, ?_, q0, q1⟩
  have hl : cs.toList = cs.toList.take 15 ++ (cs.toList.drop 15).take 15 := by
    conv => lhs; rw [← List.take_append_drop 15 cs.toList]
    congr 1
    exact (List.take_of_length_le (by rw [List.length_drop, Array.length_toList]; omega)).symm
  have e0' : cs.toList.take 15 = [.int .i64 asn, .int .i64 cfd, .int .u32 rtr, .int .u32 clt, .slice QA qn qc, .slice na nn nc, .slice g0 m0 c0, .slice g1 m1 c1, .slice g2 m2 c2, .slice g3 m3 c3, .int .i64 d0, .int .i64 d1, .int .i64 d2, .int .i64 d3, .int .i64 mul] := by rw [Nat.zero_mul, List.drop_zero] at e0; exact e0
  have e1' : (cs.toList.drop 15).take 15 = [.int .i64 asno, .int .i64 cfdo, .int .u32 rtro, .int .u32 clto, .slice QAo qno qco, .slice nao nno nco, .slice g0o m0o c0o, .slice g1o m1o c1o, .slice g2o m2o c2o, .slice g3o m3o c3o, .int .i64 d0o, .int .i64 d1o, .int .i64 d2o, .int .i64 d3o, .int .i64 mulo] := by rw [Nat.one_mul] at e1; exact e1
  rw [e0', e1'] at hl
  have : cs = #[.int .i64 asn, .int .i64 cfd, .int .u32 rtr, .int .u32 clt, .slice QA qn qc, .slice na nn nc, .slice g0 m0 c0, .slice g1 m1 c1, .slice g2 m2 c2, .slice g3 m3 c3, .int .i64 d0, .int .i64 d1, .int .i64 d2, .int .i64 d3, .int .i64 mul, .int .i64 asno, .int .i64 cfdo, .int .u32 rtro, .int .u32 clto, .slice QAo qno qco, .slice nao nno nco, .slice g0o m0o c0o, .slice g1o m1o c1o, .slice g2o m2o c2o, .slice g3o m3o c3o, .int .i64 d0o, .int .i64 d1o, .int .i64 d2o, .int .i64 d3o, .int .i64 mulo] := by
    rw [← Array.toArray_toList (xs := cs), hl]
    rfl
  rw [this]
/-- a struct out of the middle of a block -/
theorem run_load_off {P : Program} {w : World} {T : TypeId} {all cs : List Value} {o : Oper} {a : Act} (ty : TypeId) (x : Operand) (ho : o.op = .load ty x) (g off : Nat) (hx : a.eval x = .pointer (some ⟨g, off, none⟩)) (hg : Blk w g T all)
    (hc : (all.drop off).take cs.length = cs) (d : TypeDesc) (hu : P.underlying ty = some d) (hd : d.isRow = true) (hi : (P.info? ty).map (·.size) = some cs.length) :
    (execOp a.eval o).run P w = .ok (.value (.agg cs.toArray)) w := by
  have hr : w.rangeAt g off cs := by
    intro j v hv
    have hj := (List.getElem?_eq_some_iff.1 hv).1
    rw [hg.cell, ← hv]
    conv => rhs; rw [← hc]
    rw [List.getElem?_take, if_pos hj, List.getElem?_drop]
  unfold execOp
  simp only [ho, hx, Instr.loadAt, Instr.sureAddr, Sem.run_bind, Sem.run_pure, Result.andThen_ok, run_loadVar_mid w g off ty cs d hr hu hd hi]
theorem chk_small : ∀ (p : Path) (pr : Option (Int × List Int)) (pl : Bool), chk pr pl p = 0 → (flat p).length ≤ 255 * p.length
  | [], _, _, _ => by simp [flat]
  | s :: r, pr, pl, h => by
    rw [chk] at h
    by_cases h1 : segErr s ≠ 0
    · rw [if_pos h1] at h
      exact absurd h h1
    rw [if_neg h1] at h
    split at h
    · exact absurd h (by decide)
    split at h
    · exact absurd h (by decide)
    have h2 := chk_small r _ _ h
    have h3 : s.2.length ≤ 255 := by
      rcases Nat.lt_or_ge 255 s.2.length with h4 | h4
      · exfalso
        apply h1
        unfold segErr
        split
        · decide
        split
        · decide
        first | decide | (rw [if_pos h4]; decide)
      · exact h4
    have e2 : (flat (s :: r)).length = s.2.length + (flat r).length := by simp [flat]
    rw [e2, List.length_cons]
    omega
theorem att_sm {a : Att} (h : attErr a = 0) : Sm a.path := by
  have h1 := attErr_len2 h
  have h2 := attErr_path h
  unfold pathErr at h2
  rw [if_neg (by omega)] at h2
  have h3 := chk_small _ _ _ h2
  unfold Sm
  omega
/-- what the law calls 'reflected' -/
def reflR2 (qk rk clt rtr clto rtro : Int) : Bool := qk == 3 && (rk == 3 && clusterR clto rtro == clusterR clt rtr)
set_option maxRecDepth 100000 in
set_option maxHeartbeats 8000000 in
theorem loopLaw (asn cfd rtr clt : Int) (QA na g0 g1 g2 g3 : Option Addr) (qn qc nn nc m0 c0 m1 c1 m2 c2 m3 c3 : Nat) (d0 d1 d2 d3 mul : Int) (ps : List PeerV) (asno cfdo rtro clto : Int) (QAo nao g0o g1o g2o g3o : Option Addr) (qno qco nno nco m0o c0o m1o c1o m2o c2o m3o c3o : Nat) (d0o d1o d2o d3o mulo : Int) (pso : List PeerV) (rpa rpl : Int) (og hop med pref aas aad ori : Int) (hm hp atm ha ho : Bool) (pA cA kA uA : Option Addr) (pn pc cn cc kn kc un uc : Nat) (p us : Path) (cm cl : List Int) (rpeer rkind rrtr : Int) (stale : Bool) (ti : Int) (w : World) (hQ : Peers w w.heap.size QA qn qc ps) (hQo : Peers w w.heap.size QAo qno qco pso) (hL : Lists w w.heap.size pA cA kA uA pn pc cn cc kn kc un uc p cm cl us) (hs : (flat p).length ≤ 1048576) (hus : (flat us).length ≤ 1048576) :
    Calls Try.prog 8 #[.agg #[.int .i64 asn, .int .i64 cfd, .int .u32 rtr, .int .u32 clt, .slice QA qn qc, .slice na nn nc, .slice g0 m0 c0, .slice g1 m1 c1, .slice g2 m2 c2, .slice g3 m3 c3, .int .i64 d0, .int .i64 d1, .int .i64 d2, .int .i64 d3, .int .i64 mul, .int .i64 asno, .int .i64 cfdo, .int .u32 rtro, .int .u32 clto, .slice QAo qno qco, .slice nao nno nco, .slice g0o m0o c0o, .slice g1o m1o c1o, .slice g2o m2o c2o, .slice g3o m3o c3o, .int .i64 d0o, .int .i64 d1o, .int .i64 d2o, .int .i64 d3o, .int .i64 mulo], .agg #[.int .u32 rpa, .int .i64 rpl, .int .i64 og, .slice pA pn pc, .int .u32 hop, .bool hm, .int .i64 med, .bool hp, .int .i64 pref, .bool atm, .bool ha, .int .i64 aas, .int .u32 aad, .slice cA cn cc, .bool ho, .int .u32 ori, .slice kA kn kc, .slice uA un uc, .int .i64 rpeer, .int .i64 rkind, .int .u32 rrtr, .bool stale], .int .i64 ti] w fun e w' => e = .returned (.bool true) ∧ Below w.heap.size w w' := by
  have HQ := Lib.hid hQ
  have HQO := Lib.hid hQo
  have HL := Lib.hid hL
  obtain ⟨w1, hw1⟩ : ∃ w1, (w.alloc (.cells #[.int .i64 asn, .int .i64 cfd, .int .u32 rtr, .int .u32 clt, .slice QA qn qc, .slice na nn nc, .slice g0 m0 c0, .slice g1 m1 c1, .slice g2 m2 c2, .slice g3 m3 c3, .int .i64 d0, .int .i64 d1, .int .i64 d2, .int .i64 d3, .int .i64 mul, .int .i64 asno, .int .i64 cfdo, .int .u32 rtro, .int .u32 clto, .slice QAo qno qco, .slice nao nno nco, .slice g0o m0o c0o, .slice g1o m1o c1o, .slice g2o m2o c2o, .slice g3o m3o c3o, .int .i64 d0o, .int .i64 d1o, .int .i64 d2o, .int .i64 d3o, .int .i64 mulo] 63)).alloc (.cells #[.int .u32 rpa, .int .i64 rpl, .int .i64 og, .slice pA pn pc, .int .u32 hop, .bool hm, .int .i64 med, .bool hp, .int .i64 pref, .bool atm, .bool ha, .int .i64 aas, .int .u32 aad, .slice cA cn cc, .bool ho, .int .u32 ori, .slice kA kn kc, .slice uA un uc, .int .i64 rpeer, .int .i64 rkind, .int .u32 rrtr, .bool stale] 49) = w1 := ⟨_, rfl⟩
  have hbC : Blk w1 w.heap.size 63 [.int .i64 asn, .int .i64 cfd, .int .u32 rtr, .int .u32 clt, .slice QA qn qc, .slice na nn nc, .slice g0 m0 c0, .slice g1 m1 c1, .slice g2 m2 c2, .slice g3 m3 c3, .int .i64 d0, .int .i64 d1, .int .i64 d2, .int .i64 d3, .int .i64 mul, .int .i64 asno, .int .i64 cfdo, .int .u32 rtro, .int .u32 clto, .slice QAo qno qco, .slice nao nno nco, .slice g0o m0o c0o, .slice g1o m1o c1o, .slice g2o m2o c2o, .slice g3o m3o c3o, .int .i64 d0o, .int .i64 d1o, .int .i64 d2o, .int .i64 d3o, .int .i64 mulo] := by rw [← hw1]; exact (Blk.new w _ _).keep (belowA _ _)
  have hbA : Blk w1 (w.heap.size + 1) 49 [.int .u32 rpa, .int .i64 rpl, .int .i64 og, .slice pA pn pc, .int .u32 hop, .bool hm, .int .i64 med, .bool hp, .int .i64 pref, .bool atm, .bool ha, .int .i64 aas, .int .u32 aad, .slice cA cn cc, .bool ho, .int .u32 ori, .slice kA kn kc, .slice uA un uc, .int .i64 rpeer, .int .i64 rkind, .int .u32 rrtr, .bool stale] := by rw [← hw1]; exact Blk.new2 w _ _ _
  have hb1 : Below w.heap.size w w1 := by rw [← hw1]; exact below3 (belowA _ _) (belowA _ _)
  have HB1 := Lib.hid hb1
  have HKC := Lib.hid hbC
  have HKA := Lib.hid hbA
  have hpl := hL.path.len
  have hkl := hL.clus.len
  have HSZ : Hid (¬ 3000 < sizeR p cm cl us → p.length + (flat p).length ≤ 3000 ∧ kn ≤ 3000 ∧ (flat us).length ≤ 100000) := by
    intro h
    have h1 := flat_bits8 us
    unfold sizeR size0 bits8 at h
    omega
  clear hQ hQo hL hbC hbA hb1 hpl hkl
  go_enter Try.func8, Try.ntmps8
  go_upto_region 1 with fail
  try rw [hw1]
  clear hw1
  go_cut [7, 8] (fun v7 v8 wx => ∃ b7 b8 : Nat, v7 = .pointer (some ⟨b7, 0, none⟩) ∧ v8 = .pointer (some ⟨b8, 0, none⟩) ∧ Hid (Blk wx b7 34 [.int .i64 asn, .int .i64 cfd, .int .u32 rtr, .int .u32 clt, .slice QA qn qc, .slice na nn nc, .slice g0 m0 c0, .slice g1 m1 c1, .slice g2 m2 c2, .slice g3 m3 c3, .int .i64 d0, .int .i64 d1, .int .i64 d2, .int .i64 d3, .int .i64 mul]) ∧ Hid (Blk wx b8 34 [.int .i64 asno, .int .i64 cfdo, .int .u32 rtro, .int .u32 clto, .slice QAo qno qco, .slice nao nno nco, .slice g0o m0o c0o, .slice g1o m1o c1o, .slice g2o m2o c2o, .slice g3o m3o c3o, .int .i64 d0o, .int .i64 d1o, .int .i64 d2o, .int .i64 d3o, .int .i64 mulo]) ∧ Hid (Below w1.heap.size w1 wx))
  case first =>
    have HS : Hid (∀ V, Below w1.heap.size w1 V → Blk V w.heap.size 63 [.int .i64 asn, .int .i64 cfd, .int .u32 rtr, .int .u32 clt, .slice QA qn qc, .slice na nn nc, .slice g0 m0 c0, .slice g1 m1 c1, .slice g2 m2 c2, .slice g3 m3 c3, .int .i64 d0, .int .i64 d1, .int .i64 d2, .int .i64 d3, .int .i64 mul, .int .i64 asno, .int .i64 cfdo, .int .u32 rtro, .int .u32 clto, .slice QAo qno qco, .slice nao nno nco, .slice g0o m0o c0o, .slice g1o m1o c1o, .slice g2o m2o c2o, .slice g3o m3o c3o, .int .i64 d0o, .int .i64 d1o, .int .i64 d2o, .int .i64 d3o, .int .i64 mulo]) := fun V h => HKC.out.keep h
    have HCUR : Hid (Below w1.heap.size w1 w1.drew) := (Below.refl _ _).drew
    refine wp_region_noPanic ?_
    refine wp_region_held_drew (S := fun V => Blk V w.heap.size 63 [.int .i64 asn, .int .i64 cfd, .int .u32 rtr, .int .u32 clt, .slice QA qn qc, .slice na nn nc, .slice g0 m0 c0, .slice g1 m1 c1, .slice g2 m2 c2, .slice g3 m3 c3, .int .i64 d0, .int .i64 d1, .int .i64 d2, .int .i64 d3, .int .i64 mul, .int .i64 asno, .int .i64 cfdo, .int .u32 rtro, .int .u32 clto, .slice QAo qno qco, .slice nao nno nco, .slice g0o m0o c0o, .slice g1o m1o c1o, .slice g2o m2o c2o, .slice g3o m3o c3o, .int .i64 d0o, .int .i64 d1o, .int .i64 d2o, .int .i64 d3o, .int .i64 mulo]) (by kernel_rfl) (HS.out _ HCUR.out) (fun hHeld => ?_)
    refine take_in (i := 0) _ (some 18) (by kernel_rfl) (by kernel_rfl) (by kernel_rfl) (by kernel_rfl) (fun _ _ _ h => h) (by rfl) (fun o ho w hSw => by cases ho; (try dsimp only at hSw); (try go_split_ands); go_simp; (try with_reducible rfl)) hHeld ?_
    try simp only [Act.put, List.setIfInBounds_toArray, List.set_cons_zero, List.set_cons_succ]
    refine take_in (i := 1) _ (some 19) (by kernel_rfl) (by kernel_rfl) (by kernel_rfl) (by kernel_rfl) (fun _ _ _ h => h) (by rfl) (fun o ho w hSw => by cases ho; exact run_load_off (cs := [.int .i64 asn, .int .i64 cfd, .int .u32 rtr, .int .u32 clt, .slice QA qn qc, .slice na nn nc, .slice g0 m0 c0, .slice g1 m1 c1, .slice g2 m2 c2, .slice g3 m3 c3, .int .i64 d0, .int .i64 d1, .int .i64 d2, .int .i64 d3, .int .i64 mul]) _ _ rfl _ 0 rfl hSw rfl _ Try.underlying34 rfl (by kernel_rfl)) hHeld ?_
    try simp only [Act.put, List.setIfInBounds_toArray, List.set_cons_zero, List.set_cons_succ]
    refine take_in (i := 2) _ (some 20) (by kernel_rfl) (by kernel_rfl) (by kernel_rfl) (by kernel_rfl) (fun _ _ _ h => h) (by rfl) (fun o ho w hSw => by cases ho; (try dsimp only at hSw); (try go_split_ands); go_simp; (try with_reducible rfl)) hHeld ?_
    try simp only [Act.put, List.setIfInBounds_toArray, List.set_cons_zero, List.set_cons_succ]
    refine take_in (i := 3) _ (some 21) (by kernel_rfl) (by kernel_rfl) (by kernel_rfl) (by kernel_rfl) (fun _ _ _ h => h) (by rfl) (fun o ho w hSw => by cases ho; exact run_load_off (cs := [.int .i64 asno, .int .i64 cfdo, .int .u32 rtro, .int .u32 clto, .slice QAo qno qco, .slice nao nno nco, .slice g0o m0o c0o, .slice g1o m1o c1o, .slice g2o m2o c2o, .slice g3o m3o c3o, .int .i64 d0o, .int .i64 d1o, .int .i64 d2o, .int .i64 d3o, .int .i64 mulo]) _ _ rfl _ 15 rfl hSw rfl _ Try.underlying34 rfl (by kernel_rfl)) hHeld ?_
    try simp only [Act.put, List.setIfInBounds_toArray, List.set_cons_zero, List.set_cons_succ]
    refine wpAnyH_ready (rs := [4, 5]) (by kernel_rfl) (by simp) ?_
    refine AllReadyH.cons (o := _) rfl (fun K hK => ?_) (AllReadyH.cons (o := _) rfl (fun K hK => ?_) (AllReadyH.nil))
    · go_simp
      obtain ⟨b7, hb7⟩ : ∃ b7, w1.heap.size = b7 := ⟨_, rfl⟩
      obtain ⟨wA, hwA⟩ : ∃ wA, (w1.alloc (.cells #[.int .i64 0, .int .i64 0, .int .u32 0, .int .u32 0, .slice none 0 0, .slice none 0 0, .slice none 0 0, .slice none 0 0, .slice none 0 0, .slice none 0 0, .int .i64 0, .int .i64 0, .int .i64 0, .int .i64 0, .int .i64 0] 34)).drew = wA := ⟨_, rfl⟩
      have HKb7 : Hid (Blk wA b7 34 [.int .i64 0, .int .i64 0, .int .u32 0, .int .u32 0, .slice none 0 0, .slice none 0 0, .slice none 0 0, .slice none 0 0, .slice none 0 0, .slice none 0 0, .int .i64 0, .int .i64 0, .int .i64 0, .int .i64 0, .int .i64 0]) := by
        show Blk _ _ _ _
        rw [← hwA, ← hb7]
        exact Blk.new w1 _ _
      have HNb7 : Hid (w1.heap.size ≤ b7) := by
        show _ ≤ _
        rw [← hb7]
        have h1 := HCUR.out.size
        omega
      have hb : Below w1.heap.size w1.drew wA := by
        rw [← hwA]
        exact (fun (h : Below w1.heap.size w1 _) => ⟨h.os, h.tape, h.output, h.size, h.block⟩) (belowA w1 (.cells #[.int .i64 0, .int .i64 0, .int .u32 0, .int .u32 0, .slice none 0 0, .slice none 0 0, .slice none 0 0, .slice none 0 0, .slice none 0 0, .slice none 0 0, .int .i64 0, .int .i64 0, .int .i64 0, .int .i64 0, .int .i64 0] 34)).drew
      rw [hwA, hb7]
      have HCUR2 := Lib.hid (below3 HCUR.out hb)
      clear HCUR
      have HCUR := HCUR2
      clear HCUR2 hb hb7 hwA
      refine hK.out _ _ (HS.out _ HCUR.out) (fun hHeld => ?_)
      clear hK K
      try simp only [Act.put, List.setIfInBounds_toArray, List.set_cons_zero, List.set_cons_succ]
      refine wpAnyH_ready (rs := [5]) (by kernel_rfl) (by simp) ?_
      refine AllReadyH.cons (o := _) rfl (fun K hK => ?_) (AllReadyH.nil)
      go_simp
      obtain ⟨b8, hb8⟩ : ∃ b8, wA.heap.size = b8 := ⟨_, rfl⟩
      obtain ⟨wB, hwB⟩ : ∃ wB, wA.alloc (.cells #[.int .i64 0, .int .i64 0, .int .u32 0, .int .u32 0, .slice none 0 0, .slice none 0 0, .slice none 0 0, .slice none 0 0, .slice none 0 0, .slice none 0 0, .int .i64 0, .int .i64 0, .int .i64 0, .int .i64 0, .int .i64 0] 34) = wB := ⟨_, rfl⟩
      have HKb8 : Hid (Blk wB b8 34 [.int .i64 0, .int .i64 0, .int .u32 0, .int .u32 0, .slice none 0 0, .slice none 0 0, .slice none 0 0, .slice none 0 0, .slice none 0 0, .slice none 0 0, .int .i64 0, .int .i64 0, .int .i64 0, .int .i64 0, .int .i64 0]) := by
        show Blk _ _ _ _
        rw [← hwB, ← hb8]
        exact Blk.new wA _ _
      have HNb8 : Hid (w1.heap.size ≤ b8) := by
        show _ ≤ _
        rw [← hb8]
        have h1 := HCUR.out.size
        omega
      have hb : Below wA.heap.size wA wB := by
        rw [← hwB]
        exact belowA _ _
      have HNE : Hid (b7 ≠ b8) := by have h1 := HKb7.out.lt; show _ ≠ _; omega
      have HKb72 := Lib.hid (HKb7.out.keep hb)
      clear HKb7
      have HKb7 := HKb72
      clear HKb72
      rw [hwB, hb8]
      have HCUR2 := Lib.hid (below3 HCUR.out hb)
      clear HCUR
      have HCUR := HCUR2
      clear HCUR2 hb hb8 hwB
      refine hK.out _ _ (HS.out _ HCUR.out) (fun hHeld => ?_)
      clear hK K
      try simp only [Act.put, List.setIfInBounds_toArray, List.set_cons_zero, List.set_cons_succ]
      refine wpAnyH_ready (rs := [6]) (by kernel_rfl) (by simp) ?_
      refine AllReadyH.cons (o := _) rfl (fun K hK => ?_) (AllReadyH.nil)
      obtain ⟨wP, hwP⟩ : ∃ wP, wB.setRow b7 #[.int .i64 asn, .int .i64 cfd, .int .u32 rtr, .int .u32 clt, .slice QA qn qc, .slice na nn nc, .slice g0 m0 c0, .slice g1 m1 c1, .slice g2 m2 c2, .slice g3 m3 c3, .int .i64 d0, .int .i64 d1, .int .i64 d2, .int .i64 d3, .int .i64 mul] = wP := ⟨_, rfl⟩
      have hs : Save b7 wB wP := by rw [← hwP]; exact Save.row _ _ _
      have HKb72 : Hid (Blk wP b7 34 [.int .i64 asn, .int .i64 cfd, .int .u32 rtr, .int .u32 clt, .slice QA qn qc, .slice na nn nc, .slice g0 m0 c0, .slice g1 m1 c1, .slice g2 m2 c2, .slice g3 m3 c3, .int .i64 d0, .int .i64 d1, .int .i64 d2, .int .i64 d3, .int .i64 mul]) := by
        show Blk _ _ _ _
        rw [← hwP]
        exact HKb7.out.row _
      have HKb82 := Lib.hid (HKb8.out.save hs (by have := HNE.out; omega))
      have lb := HKb7.out.lt
      have HCUR2 := Lib.hid (HCUR.out.trans (hs.below HNb7.out HCUR.out.size))
      rw [if_pos (by rfl)]
      refine wp_store_row 34 _ _ rfl b7 #[.int .i64 asn, .int .i64 cfd, .int .u32 rtr, .int .u32 clt, .slice QA qn qc, .slice na nn nc, .slice g0 m0 c0, .slice g1 m1 c1, .slice g2 m2 c2, .slice g3 m3 c3, .int .i64 d0, .int .i64 d1, .int .i64 d2, .int .i64 d3, .int .i64 mul] rfl rfl 34 _ HKb7.out (by kernel_rfl) rfl (by kernel_rfl) ?_
      rw [hwP]
      clear HCUR HKb7 HKb8
      have HCUR := HCUR2
      have HKb7 := HKb72
      have HKb8 := HKb82
      clear HCUR2 HKb72 HKb82 hs lb hwP
      refine hK.out _ _ (HS.out _ HCUR.out) (fun hHeld => ?_)
      clear hK K
      try simp only [Act.put, List.setIfInBounds_toArray, List.set_cons_zero, List.set_cons_succ]
      refine wpAnyH_ready (rs := [7]) (by kernel_rfl) (by simp) ?_
      refine AllReadyH.cons (o := _) rfl (fun K hK => ?_) (AllReadyH.nil)
      obtain ⟨wR, hwR⟩ : ∃ wR, wP.setRow b8 #[.int .i64 asno, .int .i64 cfdo, .int .u32 rtro, .int .u32 clto, .slice QAo qno qco, .slice nao nno nco, .slice g0o m0o c0o, .slice g1o m1o c1o, .slice g2o m2o c2o, .slice g3o m3o c3o, .int .i64 d0o, .int .i64 d1o, .int .i64 d2o, .int .i64 d3o, .int .i64 mulo] = wR := ⟨_, rfl⟩
      have hs : Save b8 wP wR := by rw [← hwR]; exact Save.row _ _ _
      have HKb82 : Hid (Blk wR b8 34 [.int .i64 asno, .int .i64 cfdo, .int .u32 rtro, .int .u32 clto, .slice QAo qno qco, .slice nao nno nco, .slice g0o m0o c0o, .slice g1o m1o c1o, .slice g2o m2o c2o, .slice g3o m3o c3o, .int .i64 d0o, .int .i64 d1o, .int .i64 d2o, .int .i64 d3o, .int .i64 mulo]) := by
        show Blk _ _ _ _
        rw [← hwR]
        exact HKb8.out.row _
      have HKb72 := Lib.hid (HKb7.out.save hs (by have := HNE.out; omega))
      have lb := HKb8.out.lt
      have HCUR2 := Lib.hid (HCUR.out.trans (hs.below HNb8.out HCUR.out.size))
      rw [if_pos (by rfl)]
      refine wp_store_row 34 _ _ rfl b8 #[.int .i64 asno, .int .i64 cfdo, .int .u32 rtro, .int .u32 clto, .slice QAo qno qco, .slice nao nno nco, .slice g0o m0o c0o, .slice g1o m1o c1o, .slice g2o m2o c2o, .slice g3o m3o c3o, .int .i64 d0o, .int .i64 d1o, .int .i64 d2o, .int .i64 d3o, .int .i64 mulo] rfl rfl 34 _ HKb8.out (by kernel_rfl) rfl (by kernel_rfl) ?_
      rw [hwR]
      clear HCUR HKb7 HKb8
      have HCUR := HCUR2
      have HKb7 := HKb72
      have HKb8 := HKb82
      clear HCUR2 HKb72 HKb82 hs lb hwR
      refine hK.out _ _ (HS.out _ HCUR.out) (fun hHeld => ?_)
      clear hK K
      try simp only [Act.put, List.setIfInBounds_toArray, List.set_cons_zero, List.set_cons_succ]
      refine wpAnyH_done (by kernel_rfl) ?_ _
      refine NoPanic.normal ?_
      go_wp2
      go_meet
      exact ⟨b7, b8, rfl, rfl, HKb7, HKb8, HCUR⟩
    · go_simp
      obtain ⟨b8, hb8⟩ : ∃ b8, w1.heap.size = b8 := ⟨_, rfl⟩
      obtain ⟨wB, hwB⟩ : ∃ wB, (w1.alloc (.cells #[.int .i64 0, .int .i64 0, .int .u32 0, .int .u32 0, .slice none 0 0, .slice none 0 0, .slice none 0 0, .slice none 0 0, .slice none 0 0, .slice none 0 0, .int .i64 0, .int .i64 0, .int .i64 0, .int .i64 0, .int .i64 0] 34)).drew = wB := ⟨_, rfl⟩
      have HKb8 : Hid (Blk wB b8 34 [.int .i64 0, .int .i64 0, .int .u32 0, .int .u32 0, .slice none 0 0, .slice none 0 0, .slice none 0 0, .slice none 0 0, .slice none 0 0, .slice none 0 0, .int .i64 0, .int .i64 0, .int .i64 0, .int .i64 0, .int .i64 0]) := by
        show Blk _ _ _ _
        rw [← hwB, ← hb8]
        exact Blk.new w1 _ _
      have HNb8 : Hid (w1.heap.size ≤ b8) := by
        show _ ≤ _
        rw [← hb8]
        have h1 := HCUR.out.size
        omega
      have hb : Below w1.heap.size w1.drew wB := by
        rw [← hwB]
        exact (fun (h : Below w1.heap.size w1 _) => ⟨h.os, h.tape, h.output, h.size, h.block⟩) (belowA w1 (.cells #[.int .i64 0, .int .i64 0, .int .u32 0, .int .u32 0, .slice none 0 0, .slice none 0 0, .slice none 0 0, .slice none 0 0, .slice none 0 0, .slice none 0 0, .int .i64 0, .int .i64 0, .int .i64 0, .int .i64 0, .int .i64 0] 34)).drew
      rw [hwB, hb8]
      have HCUR2 := Lib.hid (below3 HCUR.out hb)
      clear HCUR
      have HCUR := HCUR2
      clear HCUR2 hb hb8 hwB
      refine hK.out _ _ (HS.out _ HCUR.out) (fun hHeld => ?_)
      clear hK K
      try simp only [Act.put, List.setIfInBounds_toArray, List.set_cons_zero, List.set_cons_succ]
      refine wpAnyH_ready (rs := [4]) (by kernel_rfl) (by simp) ?_
      refine AllReadyH.cons (o := _) rfl (fun K hK => ?_) (AllReadyH.nil)
      go_simp
      obtain ⟨b7, hb7⟩ : ∃ b7, wB.heap.size = b7 := ⟨_, rfl⟩
      obtain ⟨wA, hwA⟩ : ∃ wA, wB.alloc (.cells #[.int .i64 0, .int .i64 0, .int .u32 0, .int .u32 0, .slice none 0 0, .slice none 0 0, .slice none 0 0, .slice none 0 0, .slice none 0 0, .slice none 0 0, .int .i64 0, .int .i64 0, .int .i64 0, .int .i64 0, .int .i64 0] 34) = wA := ⟨_, rfl⟩
      have HKb7 : Hid (Blk wA b7 34 [.int .i64 0, .int .i64 0, .int .u32 0, .int .u32 0, .slice none 0 0, .slice none 0 0, .slice none 0 0, .slice none 0 0, .slice none 0 0, .slice none 0 0, .int .i64 0, .int .i64 0, .int .i64 0, .int .i64 0, .int .i64 0]) := by
        show Blk _ _ _ _
        rw [← hwA, ← hb7]
        exact Blk.new wB _ _
      have HNb7 : Hid (w1.heap.size ≤ b7) := by
        show _ ≤ _
        rw [← hb7]
        have h1 := HCUR.out.size
        omega
      have hb : Below wB.heap.size wB wA := by
        rw [← hwA]
        exact belowA _ _
      have HNE : Hid (b7 ≠ b8) := by have h1 := HKb8.out.lt; show _ ≠ _; omega
      have HKb82 := Lib.hid (HKb8.out.keep hb)
      clear HKb8
      have HKb8 := HKb82
      clear HKb82
      rw [hwA, hb7]
      have HCUR2 := Lib.hid (below3 HCUR.out hb)
      clear HCUR
      have HCUR := HCUR2
      clear HCUR2 hb hb7 hwA
      refine hK.out _ _ (HS.out _ HCUR.out) (fun hHeld => ?_)
      clear hK K
      try simp only [Act.put, List.setIfInBounds_toArray, List.set_cons_zero, List.set_cons_succ]
      refine wpAnyH_ready (rs := [6]) (by kernel_rfl) (by simp) ?_
      refine AllReadyH.cons (o := _) rfl (fun K hK => ?_) (AllReadyH.nil)
      obtain ⟨wP, hwP⟩ : ∃ wP, wA.setRow b7 #[.int .i64 asn, .int .i64 cfd, .int .u32 rtr, .int .u32 clt, .slice QA qn qc, .slice na nn nc, .slice g0 m0 c0, .slice g1 m1 c1, .slice g2 m2 c2, .slice g3 m3 c3, .int .i64 d0, .int .i64 d1, .int .i64 d2, .int .i64 d3, .int .i64 mul] = wP := ⟨_, rfl⟩
      have hs : Save b7 wA wP := by rw [← hwP]; exact Save.row _ _ _
      have HKb72 : Hid (Blk wP b7 34 [.int .i64 asn, .int .i64 cfd, .int .u32 rtr, .int .u32 clt, .slice QA qn qc, .slice na nn nc, .slice g0 m0 c0, .slice g1 m1 c1, .slice g2 m2 c2, .slice g3 m3 c3, .int .i64 d0, .int .i64 d1, .int .i64 d2, .int .i64 d3, .int .i64 mul]) := by
        show Blk _ _ _ _
        rw [← hwP]
        exact HKb7.out.row _
      have HKb82 := Lib.hid (HKb8.out.save hs (by have := HNE.out; omega))
      have lb := HKb7.out.lt
      have HCUR2 := Lib.hid (HCUR.out.trans (hs.below HNb7.out HCUR.out.size))
      rw [if_pos (by rfl)]
      refine wp_store_row 34 _ _ rfl b7 #[.int .i64 asn, .int .i64 cfd, .int .u32 rtr, .int .u32 clt, .slice QA qn qc, .slice na nn nc, .slice g0 m0 c0, .slice g1 m1 c1, .slice g2 m2 c2, .slice g3 m3 c3, .int .i64 d0, .int .i64 d1, .int .i64 d2, .int .i64 d3, .int .i64 mul] rfl rfl 34 _ HKb7.out (by kernel_rfl) rfl (by kernel_rfl) ?_
      rw [hwP]
      clear HCUR HKb7 HKb8
      have HCUR := HCUR2
      have HKb7 := HKb72
      have HKb8 := HKb82
      clear HCUR2 HKb72 HKb82 hs lb hwP
      refine hK.out _ _ (HS.out _ HCUR.out) (fun hHeld => ?_)
      clear hK K
      try simp only [Act.put, List.setIfInBounds_toArray, List.set_cons_zero, List.set_cons_succ]
      refine wpAnyH_ready (rs := [7]) (by kernel_rfl) (by simp) ?_
      refine AllReadyH.cons (o := _) rfl (fun K hK => ?_) (AllReadyH.nil)
      obtain ⟨wR, hwR⟩ : ∃ wR, wP.setRow b8 #[.int .i64 asno, .int .i64 cfdo, .int .u32 rtro, .int .u32 clto, .slice QAo qno qco, .slice nao nno nco, .slice g0o m0o c0o, .slice g1o m1o c1o, .slice g2o m2o c2o, .slice g3o m3o c3o, .int .i64 d0o, .int .i64 d1o, .int .i64 d2o, .int .i64 d3o, .int .i64 mulo] = wR := ⟨_, rfl⟩
      have hs : Save b8 wP wR := by rw [← hwR]; exact Save.row _ _ _
      have HKb82 : Hid (Blk wR b8 34 [.int .i64 asno, .int .i64 cfdo, .int .u32 rtro, .int .u32 clto, .slice QAo qno qco, .slice nao nno nco, .slice g0o m0o c0o, .slice g1o m1o c1o, .slice g2o m2o c2o, .slice g3o m3o c3o, .int .i64 d0o, .int .i64 d1o, .int .i64 d2o, .int .i64 d3o, .int .i64 mulo]) := by
        show Blk _ _ _ _
        rw [← hwR]
        exact HKb8.out.row _
      have HKb72 := Lib.hid (HKb7.out.save hs (by have := HNE.out; omega))
      have lb := HKb8.out.lt
      have HCUR2 := Lib.hid (HCUR.out.trans (hs.below HNb8.out HCUR.out.size))
      rw [if_pos (by rfl)]
      refine wp_store_row 34 _ _ rfl b8 #[.int .i64 asno, .int .i64 cfdo, .int .u32 rtro, .int .u32 clto, .slice QAo qno qco, .slice nao nno nco, .slice g0o m0o c0o, .slice g1o m1o c1o, .slice g2o m2o c2o, .slice g3o m3o c3o, .int .i64 d0o, .int .i64 d1o, .int .i64 d2o, .int .i64 d3o, .int .i64 mulo] rfl rfl 34 _ HKb8.out (by kernel_rfl) rfl (by kernel_rfl) ?_
      rw [hwR]
      clear HCUR HKb7 HKb8
      have HCUR := HCUR2
      have HKb7 := HKb72
      have HKb8 := HKb82
      clear HCUR2 HKb72 HKb82 hs lb hwR
      refine hK.out _ _ (HS.out _ HCUR.out) (fun hHeld => ?_)
      clear hK K
      try simp only [Act.put, List.setIfInBounds_toArray, List.set_cons_zero, List.set_cons_succ]
      refine wpAnyH_done (by kernel_rfl) ?_ _
      refine NoPanic.normal ?_
      go_wp2
      go_meet
      exact ⟨b7, b8, rfl, rfl, HKb7, HKb8, HCUR⟩
  case rest =>
    obtain ⟨b7, b8, rfl, rfl, HK7, HK8, hbw⟩ := hcut
    obtain ⟨w2, rfl⟩ : ∃ w2 : World, w2 = wc := ⟨_, rfl⟩
    have HKA2 := Lib.hid (HKA.out.keep hbw.out)
    have HB2 := Lib.hid (HB1.out.trans (hbw.out.mono HB1.out.size))
    have HC := Lib.hid (large36_any og hop med pref aas aad ori hm hp atm ha ho pA cA kA uA pn pc cn cc kn kc un uc p us cm cl w2 (HL.out.grow HB2.out (Nat.le_refl _)) hs hus)
    have hltA : w.heap.size + 1 < w2.heap.size := HKA2.out.lt
    have r0 := HKA2.out.cell 0
    have r1 := HKA2.out.cell 1
    have r2 := HKA2.out.cell 2
    have r3 := HKA2.out.cell 3
    have r4 := HKA2.out.cell 4
    have r5 := HKA2.out.cell 5
    have r6 := HKA2.out.cell 6
    have r7 := HKA2.out.cell 7
    have r8 := HKA2.out.cell 8
    have r9 := HKA2.out.cell 9
    have r10 := HKA2.out.cell 10
    have r11 := HKA2.out.cell 11
    have r12 := HKA2.out.cell 12
    have r13 := HKA2.out.cell 13
    have r14 := HKA2.out.cell 14
    have r15 := HKA2.out.cell 15
    have r16 := HKA2.out.cell 16
    have r17 := HKA2.out.cell 17
    have r18 := HKA2.out.cell 18
    have r19 := HKA2.out.cell 19
    have r20 := HKA2.out.cell 20
    have r21 := HKA2.out.cell 21
    simp only [List.getElem?_cons_zero, List.getElem?_cons_succ] at r0 r1 r2 r3 r4 r5 r6 r7 r8 r9 r10 r11 r12 r13 r14 r15 r16 r17 r18 r19 r20 r21
    clear hbw HKA HKC HB1 hs hus
    go_wp2_with fail
    refine HC.out.mono ?_
    rintro e w3 ⟨rfl, hb⟩
    clear HC hltA r0 r1 r2 r3 r4 r5 r6 r7 r8 r9 r10 r11 r12 r13 r14 r15 r16 r17 r18 r19 r20 r21
    have HKA3 := Lib.hid (HKA2.out.keep hb)
    have HK73 := Lib.hid (HK7.out.keep hb)
    have HK83 := Lib.hid (HK8.out.keep hb)
    have HB3 := Lib.hid (below3 HB2.out hb)
    clear hb HKA2 HK7 HK8 HB2
    by_cases hl : 3000 < sizeR p cm cl us
    case pos =>
      rw [decide_eq_true hl]
      clear hl HSZ
      go_wp2_with fail
      refine (awake41_any w3).mono ?_
      rintro e w4 ⟨rfl, hb⟩
      have HB4 := Lib.hid (below3 HB3.out hb)
      clear hb
      go_wp2
      go_ret
      exact ⟨rfl, HB4.out⟩
    have HSM := Lib.hid (HSZ.out hl)
    rw [decide_eq_false hl]
    clear hl HSZ
    have h73 : b7 < w3.heap.size := HK73.out.lt
    have h83 : b8 < w3.heap.size := HK83.out.lt
    have c4 := HK73.out.cell 4
    have d4 := HK83.out.cell 4
    simp only [List.getElem?_cons_zero, List.getElem?_cons_succ] at c4 d4
    by_cases h60 : 60 < qn
    case pos =>
      have d60 : decide ((qn : Int) > 60) = true := by simp; omega
      go_wp2_with fail
      refine (awake41_any w3).mono ?_
      rintro e w4 ⟨rfl, hb⟩
      have HB4 := Lib.hid (below3 HB3.out hb)
      clear hb
      go_wp2
      go_ret
      exact ⟨rfl, HB4.out⟩
    have d60 : decide ((qn : Int) > 60) = false := by simp; omega
    by_cases h61 : 60 < qno
    case pos =>
      have d61 : decide ((qno : Int) > 60) = true := by simp; omega
      go_wp2_with fail
      refine (awake41_any w3).mono ?_
      rintro e w4 ⟨rfl, hb⟩
      have HB4 := Lib.hid (below3 HB3.out hb)
      clear hb
      go_wp2
      go_ret
      exact ⟨rfl, HB4.out⟩
    have d61 : decide ((qno : Int) > 60) = false := by simp; omega
    have hqno : qno ≤ 60 := by omega
    obtain ⟨⟨b, er⟩, hbr⟩ : ∃ x : Att × Int, attrsR ti ps asn cfd rtr clt rpeer rkind rrtr ⟨og, p, hop, hm, med, hp, pref, atm, ha, aas, aad, cm, ho, ori, cl, us⟩ = x := ⟨_, rfl⟩
    have HBR := Lib.hid hbr
    have HC := Lib.hid (attrs_any asn cfd rtr clt QA na g0 g1 g2 g3 qn qc nn nc m0 c0 m1 c1 m2 c2 m3 c3 d0 d1 d2 d3 mul rpa rpl og hop med pref aas aad ori hm hp atm ha ho pA cA kA uA pn pc cn cc kn kc un uc p us cm cl rpeer rkind rrtr stale ti ps w3 ((HQ.out.below HB3.out).more HB3.out.size) (HL.out.grow HB3.out (Nat.le_refl _)) (by have := HSM.out; unfold Sm; omega) (by have := HSM.out; omega) (by have := HSM.out; omega))
    rw [hbr] at HC
    clear hbr
    go_wp2_with (first | (refine wpList_load_blk rfl 34 _ rfl b7 rfl HK73.out _ Try.underlying34 rfl (by kernel_rfl) ?_) | (refine wpList_load_blk rfl 49 _ rfl (w.heap.size + 1) rfl HKA3.out _ Try.underlying49 rfl (by kernel_rfl) ?_))
    refine HC.out.mono ?_
    clear HC c4 d4 d60 d61 h60 h61 h73 h83
    obtain ⟨og', p', hop', hm', med', hp', pref', atm', ha', aas', aad', cm', ho', ori', cl', us'⟩ := b
    rintro e w4 ⟨pA', cA', kA', uA', pn', pc', cn', cc', kn', kc', un', uc', rfl, hL4, hb⟩
    dsimp only at hL4 ⊢
    have HL4 := Lib.hid hL4
    have HK74 := Lib.hid (HK73.out.keep hb)
    have HK84 := Lib.hid (HK83.out.keep hb)
    have HKA4 := Lib.hid (HKA3.out.keep hb)
    have HB4 := Lib.hid (below3 HB3.out hb)
    clear hb hL4 HK73 HK83 HKA3 HB3
    have HZ5 : Hid (Blk (w4.alloc (.cells #[.int .i64 0, .slice none 0 0, .int .u32 0, .bool false, .int .i64 0, .bool false, .int .i64 0, .bool false, .bool false, .int .i64 0, .int .u32 0, .slice none 0 0, .bool false, .int .u32 0, .slice none 0 0, .slice none 0 0] 40)) w4.heap.size 40 [.int .i64 0, .slice none 0 0, .int .u32 0, .bool false, .int .i64 0, .bool false, .int .i64 0, .bool false, .bool false, .int .i64 0, .int .u32 0, .slice none 0 0, .bool false, .int .u32 0, .slice none 0 0, .slice none 0 0]) := Blk.new w4 _ _
    obtain ⟨w5, hw5⟩ : ∃ w5, (w4.alloc (.cells #[.int .i64 0, .slice none 0 0, .int .u32 0, .bool false, .int .i64 0, .bool false, .int .i64 0, .bool false, .bool false, .int .i64 0, .int .u32 0, .slice none 0 0, .bool false, .int .u32 0, .slice none 0 0, .slice none 0 0] 40)).setRow w4.heap.size #[.int .i64 og', .slice pA' pn' pc', .int .u32 hop', .bool hm', .int .i64 med', .bool hp', .int .i64 pref', .bool atm', .bool ha', .int .i64 aas', .int .u32 aad', .slice cA' cn' cc', .bool ho', .int .u32 ori', .slice kA' kn' kc', .slice uA' un' uc'] = w5 := ⟨_, rfl⟩
    have hbX : Blk w5 w4.heap.size 40 [.int .i64 og', .slice pA' pn' pc', .int .u32 hop', .bool hm', .int .i64 med', .bool hp', .int .i64 pref', .bool atm', .bool ha', .int .i64 aas', .int .u32 aad', .slice cA' cn' cc', .bool ho', .int .u32 ori', .slice kA' kn' kc', .slice uA' un' uc'] := by rw [← hw5]; exact (box_new [.int .i64 0, .slice none 0 0, .int .u32 0, .bool false, .int .i64 0, .bool false, .int .i64 0, .bool false, .bool false, .int .i64 0, .int .u32 0, .slice none 0 0, .bool false, .int .u32 0, .slice none 0 0, .slice none 0 0] _).1
    have hb5 : Below w4.heap.size w4 w5 := by rw [← hw5]; exact (box_new [.int .i64 0, .slice none 0 0, .int .u32 0, .bool false, .int .i64 0, .bool false, .int .i64 0, .bool false, .bool false, .int .i64 0, .int .u32 0, .slice none 0 0, .bool false, .int .u32 0, .slice none 0 0, .slice none 0 0] _).2
    have HKX := Lib.hid hbX
    have HK75 := Lib.hid (HK74.out.keep hb5)
    have HK85 := Lib.hid (HK84.out.keep hb5)
    have HKA5 := Lib.hid (HKA4.out.keep hb5)
    have HB5 := Lib.hid (below3 HB4.out hb5)
    have HL5 := Lib.hid (HL4.out.grow hb5 (Nat.le_refl _))
    clear hbX hb5
    go_upto_region 5 with (refine wpList_store_blk (cs := [.int .i64 og', .slice pA' pn' pc', .int .u32 hop', .bool hm', .int .i64 med', .bool hp', .int .i64 pref', .bool atm', .bool ha', .int .i64 aas', .int .u32 aad', .slice cA' cn' cc', .bool ho', .int .u32 ori', .slice kA' kn' kc', .slice uA' un' uc']) rfl 40 _ _ rfl w4.heap.size rfl rfl HZ5.out (by kernel_rfl) rfl (by kernel_rfl) ?_)
    try rw [hw5]
    obtain ⟨M, hM⟩ : ∃ M, w4.heap.size = M := ⟨_, rfl⟩
    rw [hM] at HKX ⊢
    clear hw5 HZ5 HK74 HK84 HKA4 HB4 HL4 hM
    cases her : (er == 0)
    case false =>
      have hne : (er != 0) = true := by simpa using her
      clear her
      go_wp2_with fail
      refine (awake41_any w5).mono ?_
      rintro e w6 ⟨rfl, hb⟩
      have HB6 := Lib.hid (below3 HB5.out hb)
      clear hb
      go_wp2
      go_ret
      exact ⟨rfl, HB6.out⟩
    obtain rfl : er = 0 := by simpa using her
    clear her
    obtain ⟨j, q, rfl, hq, hch, hatt⟩ := attrs_ok HBR.out
    have HCH := Lib.hid hch
    have HATT := Lib.hid hatt
    have HP64 := Lib.hid (attErr_len2 hatt)
    have HQ5 : Hid (Peers w5 w.heap.size QA qn qc ps) := HQ.out.below HB5.out
    have hql := HQ5.out.len
    have hjn : j < qn := by rw [← hql]; exact (List.getElem?_eq_some_iff.1 hq).1
    obtain ⟨bq, oq, q', rfl, hbq, hq', k0, _⟩ := HQ5.out.get hjn
    obtain rfl : q' = q := Option.some.inj (hq'.out.symm.trans hq)
    have hjI : (j : Int) < (qn : Int) := by omega
    have hlt7 : b7 < w5.heap.size := HK75.out.lt
    have hlt8 : b8 < w5.heap.size := HK85.out.lt
    have hltA : w.heap.size + 1 < w5.heap.size := HKA5.out.lt
    have hbq5 : bq < w5.heap.size := by omega
    have va0 := HK75.out.cell 0
    have va1 := HK75.out.cell 1
    have va4 := HK75.out.cell 4
    have vb0 := HK85.out.cell 0
    have vb1 := HK85.out.cell 1
    have r19 := HKA5.out.cell 19
    simp only [List.getElem?_cons_zero, List.getElem?_cons_succ] at va0 va1 va4 vb0 vb1 r19
    clear hq hch hatt hq' hql HBR
    -- the AS
    obtain ⟨ax, hax⟩ : ∃ ax, (if cfd = 0 then asn else cfd) = ax := ⟨_, rfl⟩
    have HAX := Lib.hid hax
    clear hax
    go_upto_if 58 with fail
    go_cut [12] (fun v wx => v = .int .i64 ax ∧ wx = w5)
    case first =>
      by_cases hc0 : cfd = 0
      · have e : ax = asn := by rw [← HAX.out, if_pos hc0]
        have dc : (cfd != 0) = false := by simp [hc0]
        clear hc0
        go_wp2
        go_meet
        exact ⟨int_eq e.symm, rfl⟩
      · have e : ax = cfd := by rw [← HAX.out, if_neg hc0]
        have dc : (cfd != 0) = true := by simp [hc0]
        clear hc0
        go_wp2
        go_meet
        exact ⟨int_eq e.symm, rfl⟩
    obtain ⟨rfl, rfl⟩ := hcut
    obtain ⟨smv, hsmv⟩ : ∃ x, (q'.kind == 1 && (asno == ax || cfdo == ax)) = x := ⟨_, rfl⟩
    obtain ⟨rfv, hrfv⟩ : ∃ x, reflR2 q'.kind rkind clt rtr clto rtro = x := ⟨_, rfl⟩
    have HSMV := Lib.hid hsmv
    have HRFV := Lib.hid hrfv
    obtain ⟨kd, hkd⟩ : ∃ x, q'.kind = x := ⟨_, rfl⟩
    have HKD := Lib.hid hkd
    rw [hkd] at HSMV HRFV k0
    rw [hkd]
    clear hsmv hrfv hkd
    go_upto_region 11 with fail
    go_cut [13] (fun v wx => v = .bool smv ∧ wx = wc)
    case first =>
      cases h1 : (kd == 1)
      · have e : smv = false := by rw [← HSMV.out, h1]; rfl
        go_wp2
        go_meet
        exact ⟨by rw [e], rfl⟩
      cases h2 : (asno == ax)
      · cases h3 : (cfdo == ax)
        · have e : smv = false := by rw [← HSMV.out, h1, h2, h3]; rfl
          go_wp2
          go_meet
          exact ⟨by rw [e], rfl⟩
        · have e : smv = true := by rw [← HSMV.out, h1, h2, h3]; rfl
          go_wp2
          go_meet
          exact ⟨by rw [e], rfl⟩
      · have e : smv = true := by rw [← HSMV.out, h1, h2]; rfl
        go_wp2
        go_meet
        exact ⟨by rw [e], rfl⟩
    obtain ⟨rfl, rfl⟩ := hcut
    obtain ⟨w5, rfl⟩ : ∃ w5 : World, w5 = wc := ⟨_, rfl⟩
    have HS : Hid (∀ V, Below w5.heap.size w5 V → Blk V b7 34 [.int .i64 asn, .int .i64 cfd, .int .u32 rtr, .int .u32 clt, .slice (some ⟨bq, oq, none⟩) qn qc, .slice na nn nc, .slice g0 m0 c0, .slice g1 m1 c1, .slice g2 m2 c2, .slice g3 m3 c3, .int .i64 d0, .int .i64 d1, .int .i64 d2, .int .i64 d3, .int .i64 mul] ∧ Blk V b8 34 [.int .i64 asno, .int .i64 cfdo, .int .u32 rtro, .int .u32 clto, .slice QAo qno qco, .slice nao nno nco, .slice g0o m0o c0o, .slice g1o m1o c1o, .slice g2o m2o c2o, .slice g3o m3o c3o, .int .i64 d0o, .int .i64 d1o, .int .i64 d2o, .int .i64 d3o, .int .i64 mulo] ∧ V.cell? ⟨w.heap.size + 1, 19, none⟩ = some (.int .i64 rkind)) := fun V h => ⟨HK75.out.keep h, HK85.out.keep h, (HKA5.out.keep h).cell 19⟩
    have HC0 : Hid (Below w5.heap.size w5 w5.drew) := (Below.refl _ _).drew
    go_upto_region 12 with fail
    go_cut [14] (fun v wx => v = .bool rfv ∧ Hid (Below w5.heap.size w5 wx))
    case first =>
      refine wp_region_noPanic ?_
      refine wp_region_held_drew (S := fun V => Blk V b7 34 [.int .i64 asn, .int .i64 cfd, .int .u32 rtr, .int .u32 clt, .slice (some ⟨bq, oq, none⟩) qn qc, .slice na nn nc, .slice g0 m0 c0, .slice g1 m1 c1, .slice g2 m2 c2, .slice g3 m3 c3, .int .i64 d0, .int .i64 d1, .int .i64 d2, .int .i64 d3, .int .i64 mul] ∧ Blk V b8 34 [.int .i64 asno, .int .i64 cfdo, .int .u32 rtro, .int .u32 clto, .slice QAo qno qco, .slice nao nno nco, .slice g0o m0o c0o, .slice g1o m1o c1o, .slice g2o m2o c2o, .slice g3o m3o c3o, .int .i64 d0o, .int .i64 d1o, .int .i64 d2o, .int .i64 d3o, .int .i64 mulo] ∧ V.cell? ⟨w.heap.size + 1, 19, none⟩ = some (.int .i64 rkind)) (by kernel_rfl) (HS.out _ HC0.out) (fun hHeld => ?_)
      cases h1 : (kd == 3)
      case false =>
        have e : rfv = false := by rw [← HRFV.out]; unfold reflR2; rw [h1]; rfl
        refine take_in (i := 0) _ (some 75) (by kernel_rfl) (by kernel_rfl) (by kernel_rfl) (by kernel_rfl) (fun _ _ _ h => h) (by rfl) (fun o ho w hSw => by cases ho; (try dsimp only at hSw); (try go_split_ands); go_simp; (try with_reducible rfl)) hHeld ?_
        try simp only [Act.put, List.setIfInBounds_toArray, List.set_cons_zero, List.set_cons_succ]
        refine take_in (i := 1) _ (some 76) (by kernel_rfl) (by kernel_rfl) (by kernel_rfl) (by kernel_rfl) (fun _ _ _ h => h) (by rfl) (fun o ho w hSw => by cases ho; (try dsimp only at hSw); (try go_split_ands); go_simp; (try with_reducible rfl)) hHeld ?_
        try simp only [Act.put, List.setIfInBounds_toArray, List.set_cons_zero, List.set_cons_succ]
        refine take_in (i := 2) _ (some 77) (by kernel_rfl) (by kernel_rfl) (by kernel_rfl) (by kernel_rfl) (fun _ _ _ h => h) (by rfl) (fun o ho w hSw => by cases ho; (try dsimp only at hSw); (try go_split_ands); go_simp; (try with_reducible rfl)) hHeld ?_
        try simp only [Act.put, List.setIfInBounds_toArray, List.set_cons_zero, List.set_cons_succ]
        refine take_un (i := 3) (some 78) (by kernel_rfl) (by kernel_rfl) (by kernel_rfl) (by kernel_rfl) (fun _ _ _ h => h) (by rfl) hHeld ?_
        try simp only [Act.put, List.setIfInBounds_toArray, List.set_cons_zero, List.set_cons_succ]
        refine take_un (i := 4) (some 79) (by kernel_rfl) (by kernel_rfl) (by kernel_rfl) (by kernel_rfl) (fun _ _ _ h => h) (by rfl) hHeld ?_
        try simp only [Act.put, List.setIfInBounds_toArray, List.set_cons_zero, List.set_cons_succ]
        refine take_un (i := 5) (some 80) (by kernel_rfl) (by kernel_rfl) (by kernel_rfl) (by kernel_rfl) (fun _ _ _ h => h) (by rfl) hHeld ?_
        try simp only [Act.put, List.setIfInBounds_toArray, List.set_cons_zero, List.set_cons_succ]
        refine take_in (i := 6) _ (some 81) (by kernel_rfl) (by kernel_rfl) (by kernel_rfl) (by kernel_rfl) (fun _ _ _ h => h) (by rfl) (fun o ho w hSw => by cases ho; (try dsimp only at hSw); (try go_split_ands); go_simp; (try with_reducible rfl)) hHeld ?_
        try simp only [Act.put, List.setIfInBounds_toArray, List.set_cons_zero, List.set_cons_succ]
        refine take_in (i := 7) _ (some 82) (by kernel_rfl) (by kernel_rfl) (by kernel_rfl) (by kernel_rfl) (fun _ _ _ h => h) (by rfl) (fun o ho w hSw => by cases ho; (try dsimp only at hSw); (try go_split_ands); go_simp; (try with_reducible rfl)) hHeld ?_
        try simp only [Act.put, List.setIfInBounds_toArray, List.set_cons_zero, List.set_cons_succ]
        refine take_un (i := 8) (some 83) (by kernel_rfl) (by kernel_rfl) (by kernel_rfl) (by kernel_rfl) (fun _ _ _ h => h) (by rfl) hHeld ?_
        try simp only [Act.put, List.setIfInBounds_toArray, List.set_cons_zero, List.set_cons_succ]
        refine take_un (i := 9) (some 84) (by kernel_rfl) (by kernel_rfl) (by kernel_rfl) (by kernel_rfl) (fun _ _ _ h => h) (by rfl) hHeld ?_
        try simp only [Act.put, List.setIfInBounds_toArray, List.set_cons_zero, List.set_cons_succ]
        refine take_un (i := 10) (some 85) (by kernel_rfl) (by kernel_rfl) (by kernel_rfl) (by kernel_rfl) (fun _ _ _ h => h) (by rfl) hHeld ?_
        try simp only [Act.put, List.setIfInBounds_toArray, List.set_cons_zero, List.set_cons_succ]
        refine take_un (i := 11) (some 86) (by kernel_rfl) (by kernel_rfl) (by kernel_rfl) (by kernel_rfl) (fun _ _ _ h => h) (by rfl) hHeld ?_
        try simp only [Act.put, List.setIfInBounds_toArray, List.set_cons_zero, List.set_cons_succ]
        refine take_un (i := 12) (some 87) (by kernel_rfl) (by kernel_rfl) (by kernel_rfl) (by kernel_rfl) (fun _ _ _ h => h) (by rfl) hHeld ?_
        try simp only [Act.put, List.setIfInBounds_toArray, List.set_cons_zero, List.set_cons_succ]
        refine take_in (i := 13) _ (some 88) (by kernel_rfl) (by kernel_rfl) (by kernel_rfl) (by kernel_rfl) (fun _ _ _ h => h) (by rfl) (fun o ho w hSw => by cases ho; (try dsimp only at hSw); (try go_split_ands); go_simp; (try with_reducible rfl)) hHeld ?_
        try simp only [Act.put, List.setIfInBounds_toArray, List.set_cons_zero, List.set_cons_succ]
        refine take_in (i := 14) _ (some 14) (by kernel_rfl) (by kernel_rfl) (by kernel_rfl) (by kernel_rfl) (fun _ _ _ h => h) (by rfl) (fun o ho w hSw => by cases ho; (try dsimp only at hSw); (try go_split_ands); go_simp; (try with_reducible rfl)) hHeld ?_
        try simp only [Act.put, List.setIfInBounds_toArray, List.set_cons_zero, List.set_cons_succ]
        refine wpAnyH_done (by kernel_rfl) ?_ _
        refine NoPanic.normal ?_
        go_wp2
        go_meet
        exact ⟨by rw [e], HC0⟩
      cases h2 : (rkind == 3)
      case false =>
        have e : rfv = false := by rw [← HRFV.out]; unfold reflR2; rw [h1, h2]; rfl
        refine take_in (i := 0) _ (some 75) (by kernel_rfl) (by kernel_rfl) (by kernel_rfl) (by kernel_rfl) (fun _ _ _ h => h) (by rfl) (fun o ho w hSw => by cases ho; (try dsimp only at hSw); (try go_split_ands); go_simp; (try with_reducible rfl)) hHeld ?_
        try simp only [Act.put, List.setIfInBounds_toArray, List.set_cons_zero, List.set_cons_succ]
        refine take_in (i := 1) _ (some 76) (by kernel_rfl) (by kernel_rfl) (by kernel_rfl) (by kernel_rfl) (fun _ _ _ h => h) (by rfl) (fun o ho w hSw => by cases ho; (try dsimp only at hSw); (try go_split_ands); go_simp; (try with_reducible rfl)) hHeld ?_
        try simp only [Act.put, List.setIfInBounds_toArray, List.set_cons_zero, List.set_cons_succ]
        refine take_in (i := 2) _ (some 77) (by kernel_rfl) (by kernel_rfl) (by kernel_rfl) (by kernel_rfl) (fun _ _ _ h => h) (by rfl) (fun o ho w hSw => by cases ho; (try dsimp only at hSw); (try go_split_ands); go_simp; (try with_reducible rfl)) hHeld ?_
        try simp only [Act.put, List.setIfInBounds_toArray, List.set_cons_zero, List.set_cons_succ]
        refine take_in (i := 3) _ (some 78) (by kernel_rfl) (by kernel_rfl) (by kernel_rfl) (by kernel_rfl) (fun _ _ _ h => h) (by rfl) (fun o ho w hSw => by cases ho; (try dsimp only at hSw); (try go_split_ands); go_simp; (try with_reducible rfl)) hHeld ?_
        try simp only [Act.put, List.setIfInBounds_toArray, List.set_cons_zero, List.set_cons_succ]
        refine take_in (i := 4) _ (some 79) (by kernel_rfl) (by kernel_rfl) (by kernel_rfl) (by kernel_rfl) (fun _ _ _ h => h) (by rfl) (fun o ho w hSw => by cases ho; (try dsimp only at hSw); (try go_split_ands); go_simp; (try with_reducible rfl)) hHeld ?_
        try simp only [Act.put, List.setIfInBounds_toArray, List.set_cons_zero, List.set_cons_succ]
        refine take_in (i := 5) _ (some 80) (by kernel_rfl) (by kernel_rfl) (by kernel_rfl) (by kernel_rfl) (fun _ _ _ h => h) (by rfl) (fun o ho w hSw => by cases ho; (try dsimp only at hSw); (try go_split_ands); go_simp; (try with_reducible rfl)) hHeld ?_
        try simp only [Act.put, List.setIfInBounds_toArray, List.set_cons_zero, List.set_cons_succ]
        refine take_in (i := 6) _ (some 81) (by kernel_rfl) (by kernel_rfl) (by kernel_rfl) (by kernel_rfl) (fun _ _ _ h => h) (by rfl) (fun o ho w hSw => by cases ho; (try dsimp only at hSw); (try go_split_ands); go_simp; (try with_reducible rfl)) hHeld ?_
        try simp only [Act.put, List.setIfInBounds_toArray, List.set_cons_zero, List.set_cons_succ]
        refine take_in (i := 7) _ (some 82) (by kernel_rfl) (by kernel_rfl) (by kernel_rfl) (by kernel_rfl) (fun _ _ _ h => h) (by rfl) (fun o ho w hSw => by cases ho; (try dsimp only at hSw); (try go_split_ands); go_simp; (try with_reducible rfl)) hHeld ?_
        try simp only [Act.put, List.setIfInBounds_toArray, List.set_cons_zero, List.set_cons_succ]
        refine take_un (i := 8) (some 83) (by kernel_rfl) (by kernel_rfl) (by kernel_rfl) (by kernel_rfl) (fun _ _ _ h => h) (by rfl) hHeld ?_
        try simp only [Act.put, List.setIfInBounds_toArray, List.set_cons_zero, List.set_cons_succ]
        refine take_un (i := 9) (some 84) (by kernel_rfl) (by kernel_rfl) (by kernel_rfl) (by kernel_rfl) (fun _ _ _ h => h) (by rfl) hHeld ?_
        try simp only [Act.put, List.setIfInBounds_toArray, List.set_cons_zero, List.set_cons_succ]
        refine take_un (i := 10) (some 85) (by kernel_rfl) (by kernel_rfl) (by kernel_rfl) (by kernel_rfl) (fun _ _ _ h => h) (by rfl) hHeld ?_
        try simp only [Act.put, List.setIfInBounds_toArray, List.set_cons_zero, List.set_cons_succ]
        refine take_un (i := 11) (some 86) (by kernel_rfl) (by kernel_rfl) (by kernel_rfl) (by kernel_rfl) (fun _ _ _ h => h) (by rfl) hHeld ?_
        try simp only [Act.put, List.setIfInBounds_toArray, List.set_cons_zero, List.set_cons_succ]
        refine take_un (i := 12) (some 87) (by kernel_rfl) (by kernel_rfl) (by kernel_rfl) (by kernel_rfl) (fun _ _ _ h => h) (by rfl) hHeld ?_
        try simp only [Act.put, List.setIfInBounds_toArray, List.set_cons_zero, List.set_cons_succ]
        refine take_in (i := 13) _ (some 88) (by kernel_rfl) (by kernel_rfl) (by kernel_rfl) (by kernel_rfl) (fun _ _ _ h => h) (by rfl) (fun o ho w hSw => by cases ho; (try dsimp only at hSw); (try go_split_ands); go_simp; (try with_reducible rfl)) hHeld ?_
        try simp only [Act.put, List.setIfInBounds_toArray, List.set_cons_zero, List.set_cons_succ]
        refine take_in (i := 14) _ (some 14) (by kernel_rfl) (by kernel_rfl) (by kernel_rfl) (by kernel_rfl) (fun _ _ _ h => h) (by rfl) (fun o ho w hSw => by cases ho; (try dsimp only at hSw); (try go_split_ands); go_simp; (try with_reducible rfl)) hHeld ?_
        try simp only [Act.put, List.setIfInBounds_toArray, List.set_cons_zero, List.set_cons_succ]
        refine wpAnyH_done (by kernel_rfl) ?_ _
        refine NoPanic.normal ?_
        go_wp2
        go_meet
        exact ⟨by rw [e], HC0⟩
      case true =>
        have e : rfv = (clusterR clto rtro == clusterR clt rtr) := by rw [← HRFV.out]; unfold reflR2; rw [h1, h2]; rfl
        refine take_in (i := 0) _ (some 75) (by kernel_rfl) (by kernel_rfl) (by kernel_rfl) (by kernel_rfl) (fun _ _ _ h => h) (by rfl) (fun o ho w hSw => by cases ho; (try dsimp only at hSw); (try go_split_ands); go_simp; (try with_reducible rfl)) hHeld ?_
        try simp only [Act.put, List.setIfInBounds_toArray, List.set_cons_zero, List.set_cons_succ]
        refine take_in (i := 1) _ (some 76) (by kernel_rfl) (by kernel_rfl) (by kernel_rfl) (by kernel_rfl) (fun _ _ _ h => h) (by rfl) (fun o ho w hSw => by cases ho; (try dsimp only at hSw); (try go_split_ands); go_simp; (try with_reducible rfl)) hHeld ?_
        try simp only [Act.put, List.setIfInBounds_toArray, List.set_cons_zero, List.set_cons_succ]
        refine take_in (i := 2) _ (some 77) (by kernel_rfl) (by kernel_rfl) (by kernel_rfl) (by kernel_rfl) (fun _ _ _ h => h) (by rfl) (fun o ho w hSw => by cases ho; (try dsimp only at hSw); (try go_split_ands); go_simp; (try with_reducible rfl)) hHeld ?_
        try simp only [Act.put, List.setIfInBounds_toArray, List.set_cons_zero, List.set_cons_succ]
        refine take_in (i := 3) _ (some 78) (by kernel_rfl) (by kernel_rfl) (by kernel_rfl) (by kernel_rfl) (fun _ _ _ h => h) (by rfl) (fun o ho w hSw => by cases ho; (try dsimp only at hSw); (try go_split_ands); go_simp; (try with_reducible rfl)) hHeld ?_
        try simp only [Act.put, List.setIfInBounds_toArray, List.set_cons_zero, List.set_cons_succ]
        refine take_in (i := 4) _ (some 79) (by kernel_rfl) (by kernel_rfl) (by kernel_rfl) (by kernel_rfl) (fun _ _ _ h => h) (by rfl) (fun o ho w hSw => by cases ho; (try dsimp only at hSw); (try go_split_ands); go_simp; (try with_reducible rfl)) hHeld ?_
        try simp only [Act.put, List.setIfInBounds_toArray, List.set_cons_zero, List.set_cons_succ]
        refine take_in (i := 5) _ (some 80) (by kernel_rfl) (by kernel_rfl) (by kernel_rfl) (by kernel_rfl) (fun _ _ _ h => h) (by rfl) (fun o ho w hSw => by cases ho; (try dsimp only at hSw); (try go_split_ands); go_simp; (try with_reducible rfl)) hHeld ?_
        try simp only [Act.put, List.setIfInBounds_toArray, List.set_cons_zero, List.set_cons_succ]
        refine take_in (i := 6) _ (some 81) (by kernel_rfl) (by kernel_rfl) (by kernel_rfl) (by kernel_rfl) (fun _ _ _ h => h) (by rfl) (fun o ho w hSw => by cases ho; (try dsimp only at hSw); (try go_split_ands); go_simp; (try with_reducible rfl)) hHeld ?_
        try simp only [Act.put, List.setIfInBounds_toArray, List.set_cons_zero, List.set_cons_succ]
        refine take_in (i := 7) _ (some 82) (by kernel_rfl) (by kernel_rfl) (by kernel_rfl) (by kernel_rfl) (fun _ _ _ h => h) (by rfl) (fun o ho w hSw => by cases ho; (try dsimp only at hSw); (try go_split_ands); go_simp; (try with_reducible rfl)) hHeld ?_
        try simp only [Act.put, List.setIfInBounds_toArray, List.set_cons_zero, List.set_cons_succ]
        refine take_in (i := 8) _ (some 83) (by kernel_rfl) (by kernel_rfl) (by kernel_rfl) (by kernel_rfl) (fun _ _ _ h => h) (by rfl) (fun o ho w hSw => by cases ho; exact run_load_blk _ _ rfl _ rfl (hSw.2.1) _ Try.underlying34 rfl (by kernel_rfl)) hHeld ?_
        try simp only [Act.put, List.setIfInBounds_toArray, List.set_cons_zero, List.set_cons_succ]
        refine take_in (i := 10) _ (some 85) (by kernel_rfl) (by kernel_rfl) (by kernel_rfl) (by kernel_rfl) (fun _ _ _ h => h) (by rfl) (fun o ho w hSw => by cases ho; exact run_load_blk _ _ rfl _ rfl (hSw.1) _ Try.underlying34 rfl (by kernel_rfl)) hHeld ?_
        try simp only [Act.put, List.setIfInBounds_toArray, List.set_cons_zero, List.set_cons_succ]
        refine wpAnyH_ready (rs := [9]) (by kernel_rfl) (by simp) ?_
        refine AllReadyH.cons (o := _) rfl (fun K hK => ?_) AllReadyH.nil
        go_simp
        go_at_call 25
        with_reducible refine (refCluster_any asno cfdo rtro clto QAo nao g0o g1o g2o g3o qno qco nno nco m0o c0o m1o c1o m2o c2o m3o c3o d0o d1o d2o d3o mulo _).mono ?_
        rintro e wX ⟨rfl, hbX⟩
        have HCX := Lib.hid (below3 HC0.out hbX)
        clear hbX
        refine hK.out _ _ (HS.out _ HCX.out) (fun hHeld => ?_)
        clear hK K
        try simp only [Act.put, List.setIfInBounds_toArray, List.set_cons_zero, List.set_cons_succ]
        refine wpAnyH_ready (rs := [11]) (by kernel_rfl) (by simp) ?_
        refine AllReadyH.cons (o := _) rfl (fun K hK => ?_) AllReadyH.nil
        go_simp
        go_at_call 25
        with_reducible refine (refCluster_any asn cfd rtr clt (some ⟨bq, oq, none⟩) na g0 g1 g2 g3 qn qc nn nc m0 c0 m1 c1 m2 c2 m3 c3 d0 d1 d2 d3 mul _).mono ?_
        rintro e wY ⟨rfl, hbX⟩
        have HCY := Lib.hid (below3 HCX.out hbX)
        clear hbX
        refine hK.out _ _ (HS.out _ HCY.out) (fun hHeld => ?_)
        clear hK K
        try simp only [Act.put, List.setIfInBounds_toArray, List.set_cons_zero, List.set_cons_succ]
        refine take_in (i := 12) _ (some 87) (by kernel_rfl) (by kernel_rfl) (by kernel_rfl) (by kernel_rfl) (fun _ _ _ h => h) (by rfl) (fun o ho w hSw => by cases ho; (try dsimp only at hSw); (try go_split_ands); go_simp; (try with_reducible rfl)) hHeld ?_
        try simp only [Act.put, List.setIfInBounds_toArray, List.set_cons_zero, List.set_cons_succ]
        refine take_in (i := 13) _ (some 88) (by kernel_rfl) (by kernel_rfl) (by kernel_rfl) (by kernel_rfl) (fun _ _ _ h => h) (by rfl) (fun o ho w hSw => by cases ho; (try dsimp only at hSw); (try go_split_ands); go_simp; (try with_reducible rfl)) hHeld ?_
        try simp only [Act.put, List.setIfInBounds_toArray, List.set_cons_zero, List.set_cons_succ]
        refine take_in (i := 14) _ (some 14) (by kernel_rfl) (by kernel_rfl) (by kernel_rfl) (by kernel_rfl) (fun _ _ _ h => h) (by rfl) (fun o ho w hSw => by cases ho; (try dsimp only at hSw); (try go_split_ands); go_simp; (try with_reducible rfl)) hHeld ?_
        try simp only [Act.put, List.setIfInBounds_toArray, List.set_cons_zero, List.set_cons_succ]
        refine wpAnyH_done (by kernel_rfl) ?_ _
        refine NoPanic.normal ?_
        go_wp2
        go_meet
        exact ⟨by rw [e], HCY⟩
    case rest =>
      obtain ⟨rfl, hbw⟩ := hcut
      obtain ⟨w6, rfl⟩ : ∃ w6 : World, w6 = wc := ⟨_, rfl⟩
      have HK86 := Lib.hid (HK85.out.keep hbw.out)
      have HKX6 := Lib.hid (HKX.out.keep hbw.out)
      have HL6 := Lib.hid (HL5.out.grow hbw.out (Nat.le_refl _))
      have HB6 := Lib.hid (HB5.out.trans (hbw.out.mono HB5.out.size))
      have HSAME : Hid (smv = true → ∀ (q2 : PeerV), acceptT q2 asno cfdo rtro clto ⟨og', p', hop', hm', med', hp', pref', atm', ha', aas', aad', cm', ho', ori', cl', us'⟩ = 10 ∨ acceptT q2 asno cfdo rtro clto ⟨og', p', hop', hm', med', hp', pref', atm', ha', aas', aad', cm', ho', ori', cl', us'⟩ = 14) := by
        intro h q2
        rw [← HSMV.out, Bool.and_eq_true, Bool.or_eq_true] at h
        have hk1 : q'.kind = 1 := by rw [HKD.out]; simpa using h.1
        obtain ⟨_, _, _, _, _, _, l7, l8⟩ := local_ok hk1 HCH.out
        rw [HAX.out] at l7 l8
        refine loop_same (ax := ax) l8 (by rw [l7]; exact List.mem_cons_self) ?_
        rcases h.2 with h2 | h2
        · exact .inl (by simpa using h2)
        · exact .inr (by simpa using h2)
      have HREFL : Hid (rfv = true → ∀ (q2 : PeerV), q2.kind = 3 → acceptT q2 asno cfdo rtro clto ⟨og', p', hop', hm', med', hp', pref', atm', ha', aas', aad', cm', ho', ori', cl', us'⟩ = 10) := by
        intro h q2 hq2
        rw [← HRFV.out] at h
        unfold reflR2 at h
        rw [Bool.and_eq_true, Bool.and_eq_true] at h
        exact loop_refl (by rw [HKD.out]; simpa using h.1) (by simpa using h.2.1) HCH.out (by simpa using h.2.2) hq2
      have hsm' : Sm p' := att_sm HATT.out
      have HSM' := Lib.hid hsm'
      have e4 := HK86.out.cell 4
      simp only [List.getElem?_cons_zero, List.getElem?_cons_succ] at e4
      have hlt86 : b8 < w6.heap.size := HK86.out.lt
      clear hbw HK75 HK85 HKA5 HKX HL5 HB5 hsm' va0 va1 va4 vb0 vb1 r19 hlt7 hlt8 hltA hbq5 k0 HS HC0
      go_wp2
      clear e4 hlt86
      go_loopw [92] (fun iv wr => ∃ k : Nat, k ≤ qno ∧ iv = .int .i64 k ∧ Hid (Below w6.heap.size w6 wr)) (fun iv _ => qno - (intOf iv).toNat)
      case atStart => exact ⟨0, Nat.zero_le _, rfl, Below.refl _ _⟩
      case round =>
        obtain ⟨k, hk, rfl, hbw⟩ := hrel
        by_cases hlt : k < qno
        case neg =>
          obtain ⟨wq, rfl⟩ : ∃ wq : World, wq = wr := ⟨_, rfl⟩
          have HB7 := Lib.hid (HB6.out.trans (hbw.out.mono HB6.out.size))
          have hki : ¬ (k : Int) < (qno : Int) := by omega
          go_wp2_with fail
          refine (awake41_any _).mono ?_
          rintro e w8 ⟨rfl, hb⟩
          have HB8 := Lib.hid (below3 HB7.out hb)
          clear hb
          go_wp2
          go_ret
          exact ⟨rfl, HB8.out⟩
        have hki : (k : Int) < (qno : Int) := by omega
        have hbwr := HB6.out.trans (hbw.out.mono HB6.out.size)
        obtain ⟨bo, oo, q2, rfl, hbo, hq2, q0, q1, qq2, q3, q4, q5, q6, q7, q8, q9, q10⟩ := Peers.get (HQO.out.below hbwr) hlt
        have HF := Lib.hid (acceptR_at hq2.out HATT.out asno cfdo rtro clto)
        have hbor : bo < wr.heap.size := by have := hbwr.size; omega
        have hS := fun h => HSAME.out h q2
        have hR := fun h => HREFL.out h q2
        obtain ⟨f, hf⟩ : ∃ f, acceptT q2 asno cfdo rtro clto ⟨og', p', hop', hm', med', hp', pref', atm', ha', aas', aad', cm', ho', ori', cl', us'⟩ = f := ⟨_, rfl⟩
        rw [hf] at HF hS hR
        have HSf := Lib.hid hS
        have HRf := Lib.hid hR
        clear hf hS hR hq2
        obtain ⟨pk, pas, padr, ploc, pcli, phold, prest, pimp, pexp, pself, pdamp⟩ := q2
        dsimp only at q0 q1 qq2 q3 q4 q5 q6 q7 q8 q9 q10 HRf
        obtain ⟨wa, hwa⟩ : ∃ wa, wr.alloc (.cells #[.int .i64 pk, .int .i64 pas, .int .u32 padr, .int .u32 ploc, .bool pcli, .int .i64 phold, .int .i64 prest, .string pimp, .string pexp, .bool pself, .bool pdamp] 66) = wa := ⟨_, rfl⟩
        have hbP : Blk wa wr.heap.size 66 [.int .i64 pk, .int .i64 pas, .int .u32 padr, .int .u32 ploc, .bool pcli, .int .i64 phold, .int .i64 prest, .string pimp, .string pexp, .bool pself, .bool pdamp] := by rw [← hwa]; exact Blk.new wr _ _
        have hba : Below wr.heap.size wr wa := by rw [← hwa]; exact belowA _ _
        have HKP := Lib.hid hbP
        have hb6a := hbw.out.trans (hba.mono hbw.out.size)
        have HB6a := Lib.hid hb6a
        have HK8a := Lib.hid (HK86.out.keep hb6a)
        have HKXa := Lib.hid (HKX6.out.keep hb6a)
        have HLa := Lib.hid (HL6.out.grow hb6a (Nat.le_refl _))
        have HQa : Hid (Peers wa wa.heap.size (some ⟨bo, oo, none⟩) qno qco pso) := by
          have h := HB6.out.trans (hb6a.mono HB6.out.size)
          exact (HQO.out.below h).more h.size
        have lra : wr.heap.size < wa.heap.size := hbP.lt
        clear hbP hba hb6a hbwr
        go_upto_region 16 with fail
        try rw [hwa]
        obtain ⟨np, hnp⟩ : ∃ np, wr.heap.size = np := ⟨_, rfl⟩
        rw [hnp] at HKP lra ⊢
        clear hwa q0 q1 qq2 q3 q4 q5 q6 q7 q8 q9 q10 hbw hnp
        go_wp2_with (first | (refine wpList_load_blk rfl 34 _ rfl b8 rfl HK8a.out _ Try.underlying34 rfl (by kernel_rfl) ?_) | (refine wpList_load_blk rfl 40 _ rfl M rfl HKXa.out _ Try.underlying40 rfl (by kernel_rfl) ?_))
        refine (accept_any asno cfdo rtro clto (some ⟨bo, oo, none⟩) nao g0o g1o g2o g3o qno qco nno nco m0o c0o m1o c1o m2o c2o m3o c3o d0o d1o d2o d3o mulo (k : Int) og' hop' med' pref' aas' aad' ori' hm' hp' atm' ha' ho' pA' cA' kA' uA' pn' pc' cn' cc' kn' kc' un' uc' p' us' cm' cl' pso wa HQa.out HLa.out HSM'.out).mono ?_
        rintro e wb ⟨rfl, hb⟩
        rw [HF.out]
        have HKPb := Lib.hid (HKP.out.keep hb)
        have HBb := Lib.hid (HB6a.out.trans (hb.mono HB6a.out.size))
        have lnp : np < wb.heap.size := HKPb.out.lt
        have p0 := HKPb.out.cell 0
        simp only [List.getElem?_cons_zero, List.getElem?_cons_succ] at p0
        clear hb HK8a HKXa HLa HQa HKP lra HB6a HF
        have hcase : (smv = false ∨ f = 10 ∨ f = 14) ∧ (rfv = false ∨ pk ≠ 3 ∨ f = 10) := by
          constructor
          · cases hs : smv
            · exact .inl rfl
            · exact .inr (HSf.out hs)
          · cases hr : rfv
            · exact .inl rfl
            · by_cases h3 : pk = 3
              · exact .inr (.inr (HRf.out hr h3))
              · exact .inr (.inl h3)
        obtain ⟨hc1, hc2⟩ := hcase
        cases smv <;> cases rfv
        case false.false =>
          clear hc1 hc2
          go_wp2
          go_roundw
          case rel => exact ⟨k + 1, by omega, by go_num, HBb⟩
          case measure => simp [intOf]; omega
        case true.false =>
          rcases hc1 with h | rfl | rfl
          · cases h
          all_goals
            clear hc2
            go_wp2
            go_roundw
            case rel => exact ⟨k + 1, by omega, by go_num, HBb⟩
            case measure => simp [intOf]; omega
        case false.true =>
          rcases hc2 with h | h | rfl
          · cases h
          · have h3 : (pk == 3) = false := by simpa using h
            clear hc1 h
            go_wp2
            go_roundw
            case rel => exact ⟨k + 1, by omega, by go_num, HBb⟩
            case measure => simp [intOf]; omega
          · clear hc1
            cases h3 : (pk == 3)
            all_goals
              go_wp2
              go_roundw
              case rel => exact ⟨k + 1, by omega, by go_num, HBb⟩
              case measure => simp [intOf]; omega
        case true.true =>
          rcases hc2 with h | h | rfl
          · cases h
          · have h3 : (pk == 3) = false := by simpa using h
            clear h
            rcases hc1 with h | rfl | rfl
            · cases h
            all_goals
              go_wp2
              go_roundw
              case rel => exact ⟨k + 1, by omega, by go_num, HBb⟩
              case measure => simp [intOf]; omega
          · clear hc1
            cases h3 : (pk == 3)
            all_goals
              go_wp2
              go_roundw
              case rel => exact ⟨k + 1, by omega, by go_num, HBb⟩
              case measure => simp [intOf]; omega
theorem advertiseLoop_walk (v0 v1 : Value) (i : Int) (w : World) (h0 : TwoIn w v0) (h1 : RouteIn w v1) (_h2 : (Lit.int .i64 i).wf = true) :
    Calls Try.prog 8 #[v0, v1, .int .i64 i] w fun e w' => e = .returned (.bool true) ∧ Below w.heap.size w w' := by
  obtain ⟨asn, cfd, rtr, clt, QA, na, g0, g1, g2, g3, qn, qc, nn, nc, m0, c0, m1, c1, m2, c2, m3, c3, d0, d1, d2, d3, mul, ps, asno, cfdo, rtro, clto, QAo, nao, g0o, g1o, g2o, g3o, qno, qco, nno, nco, m0o, c0o, m1o, c1o, m2o, c2o, m3o, c3o, d0o, d1o, d2o, d3o, mulo, pso, rfl, hQ, hQo⟩ := h0
  obtain ⟨rpa, rpl, og, hop, med, pref, aas, aad, ori, hm, hp, atm, ha, ho, pA, cA, kA, uA, pn, pc, cn, cc, kn, kc, un, uc, p, us, cm, cl, rpeer, rkind, rrtr, stale, rfl, hL, hs, hus⟩ := h1
  exact loopLaw asn cfd rtr clt QA na g0 g1 g2 g3 qn qc nn nc m0 c0 m1 c1 m2 c2 m3 c3 d0 d1 d2 d3 mul ps asno cfdo rtro clto QAo nao g0o g1o g2o g3o qno qco nno nco m0o c0o m1o c1o m2o c2o m3o c3o d0o d1o d2o d3o mulo pso rpa rpl og hop med pref aas aad ori hm hp atm ha ho pA cA kA uA pn pc cn cc kn kc un uc p us cm cl rpeer rkind rrtr stale i w hQ hQo hL hs hus
end Go.Proofs.Ytojgohgeagbkbaa
