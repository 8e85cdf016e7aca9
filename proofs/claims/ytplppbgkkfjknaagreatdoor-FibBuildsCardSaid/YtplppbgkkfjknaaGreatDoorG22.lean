/- Three results: a packet, a path, a number; groups failed one interface after another. byAddress: the walk (printed by gen_faddr.py from FAddr.base). -/
import Derived.Test.YtplppbgkkfjknaaGreatDoorG17
import Derived.Test.YtplppbgkkfjknaaGreatDoorG19
import Derived.Test.YtplppbgkkfjknaaGreatDoorG8
import Derived.Test.YtplppbgkkfjknaaGreatDoorG5
import Derived.Test.YtplppbgkkfjknaaGreatDoorG6
import Derived.Test.YtplppbgkkfjknaaGreatDoorG10
import Derived.Test.YtplppbgkkfjknaaGreatDoorG16
namespace Go.Proofs.YtplppbgkkfjknaaGreatDoor
open Go.RowKit

set_option linter.unusedVariables false
set_option linter.unusedSimpArgs false
theorem results_cells3 {P : Program} {w : World} {fn : Func} {p q u : Tmp} {ty ty2 : TypeId} {T T2 : TypeId} {cs ds : List Value} (h : fn.results = #[.cell p ty, .cell q ty2, .tmp u]) (tmps : Array Value) (g g2 : Nat) (d d2 : TypeDesc)
    (hp : tmps.getD p undef = .pointer (some ⟨g, 0, none⟩)) (hq : tmps.getD q undef = .pointer (some ⟨g2, 0, none⟩)) (hg : Blk w g T cs) (hg2 : Blk w g2 T2 ds) (hu : P.underlying ty = some d) (hd : (match d with | .struct _ | .array _ _ => true | _ => false) = true) (hi : (P.info? ty).map (·.size) = some cs.length)
    (hu2 : P.underlying ty2 = some d2) (hd2 : (match d2 with | .struct _ | .array _ _ => true | _ => false) = true) (hi2 : (P.info? ty2).map (·.size) = some ds.length) :
    (results fn tmps).run P w = .ok (.tuple #[.agg cs.toArray, .agg ds.toArray, tmps.getD u undef]) w := by
  have hp' : tmps[p]?.getD undef = .pointer (some ⟨g, 0, none⟩) := by simpa using hp
  have hq' : tmps[q]?.getD undef = .pointer (some ⟨g2, 0, none⟩) := by simpa using hq
  simp [results, h, Sem.run_bind, hp', hq', asAddr, Result.andThen, run_loadVar_row w g T ty cs.toArray (0, 0) d hg hu hd (by rw [hi]; simp), run_loadVar_row w g2 T2 ty2 ds.toArray (0, 0) d2 hg2 hu2 hd2 (by rw [hi2]; simp)]
/-- the store of a whole struct at an operation of a drawn region -/
theorem step_store_blk {P : Program} {ops : Array Oper} {o : Oper} {a : Act} {w : World} {K : Act → World → Prop} {Q : Exit → Act → World → Prop} {E : Prop} {T : TypeId} {old : List Value} (cs : List Value) (hgd : o.guard = none) (hd : o.dst = none) (ty : TypeId) (x y : Operand) (ho : o.op = .store ty x y) (g : Nat)
    (hx : a.eval x = .pointer (some ⟨g, 0, none⟩)) (hy : a.eval y = .agg cs.toArray) (hg : Blk w g T old) (hi : (P.info? ty).map (·.size) = some cs.length) (hold : old.length = cs.length) (h1 : cs.toArray.all (·.oneCell') = true) (h : K (a.put none undef) (w.setRow g cs.toArray)) :
    if Region.wanted o (yielded ops a.tmps) = true then Oper.wp P o a w K Q else E := by
  have hw : Region.wanted o (yielded ops a.tmps) = true := by simp [Region.wanted, hgd]
  rw [if_pos hw]
  refine wp_store_row ty x y ho g cs.toArray hx hy T old.toArray hg (by rw [hi]; simp) (by simpa using hold) h1 ?_
  rw [hd]
  exact h
/-- the two boxes of the results, written one after the other -/
theorem out_facts {w W : World} {N : Nat} {P0 Q0 : List Value} (pk pt : List Value) (hp : Blk W (N + 1 + 1) 54 P0) (hq : Blk W (N + 1 + 1 + 1) 57 Q0) (hb : Below N w W) (hs : N ≤ w.heap.size) :
    Hid (Blk (W.setRow (N + 1 + 1) pk.toArray) (N + 1 + 1 + 1) 57 Q0) ∧ Hid (Blk ((W.setRow (N + 1 + 1) pk.toArray).setRow (N + 1 + 1 + 1) pt.toArray) (N + 1 + 1) 54 pk) ∧ Hid (Blk ((W.setRow (N + 1 + 1) pk.toArray).setRow (N + 1 + 1 + 1) pt.toArray) (N + 1 + 1 + 1) 57 pt) ∧
      Hid (Below N w ((W.setRow (N + 1 + 1) pk.toArray).setRow (N + 1 + 1 + 1) pt.toArray)) ∧ Hid (Keep (fun q => q ≠ N + 1 + 1 ∧ q ≠ N + 1 + 1 + 1) W ((W.setRow (N + 1 + 1) pk.toArray).setRow (N + 1 + 1 + 1) pt.toArray)) := by
  have h1 := Save.row (N + 1 + 1) W pk.toArray
  have h2 := Save.row (N + 1 + 1 + 1) (W.setRow (N + 1 + 1) pk.toArray) pt.toArray
  have hs1 := hb.size
  have hs2 := h1.size
  exact ⟨hq.save h1 (by omega), (hp.row pk).save h2 (by omega), (hq.save h1 (by omega)).row pt, (hb.trans (h1.below (by omega) (by omega))).trans (h2.below (by omega) (by omega)),
    (Keep.save h1 fun k hk => hk.1).trans (Keep.save h2 fun k hk => hk.2)⟩
theorem out_facts2 {w W : World} {N : Nat} {P0 Q0 : List Value} (pk pt : List Value) (hp : Blk W (N + 1 + 1) 54 P0) (hq : Blk W (N + 1 + 1 + 1) 57 Q0) (hb : Below N w W) (hs : N ≤ w.heap.size) :
    Hid (Blk (W.setRow (N + 1 + 1 + 1) pt.toArray) (N + 1 + 1) 54 P0) ∧ Hid (Blk ((W.setRow (N + 1 + 1 + 1) pt.toArray).setRow (N + 1 + 1) pk.toArray) (N + 1 + 1) 54 pk) ∧ Hid (Blk ((W.setRow (N + 1 + 1 + 1) pt.toArray).setRow (N + 1 + 1) pk.toArray) (N + 1 + 1 + 1) 57 pt) ∧
      Hid (Below N w ((W.setRow (N + 1 + 1 + 1) pt.toArray).setRow (N + 1 + 1) pk.toArray)) ∧ Hid (Keep (fun q => q ≠ N + 1 + 1 ∧ q ≠ N + 1 + 1 + 1) W ((W.setRow (N + 1 + 1 + 1) pt.toArray).setRow (N + 1 + 1) pk.toArray)) := by
  have h1 := Save.row (N + 1 + 1 + 1) W pt.toArray
  have h2 := Save.row (N + 1 + 1) (W.setRow (N + 1 + 1 + 1) pt.toArray) pk.toArray
  have hs1 := hb.size
  have hs2 := h1.size
  exact ⟨hp.save h1 (by omega), (hp.save h1 (by omega)).row pk, (hq.row pt).save h2 (by omega), (hb.trans (h1.below (by omega) (by omega))).trans (h2.below (by omega) (by omega)),
    (Keep.save h1 fun k hk => hk.2).trans (Keep.save h2 fun k hk => hk.1)⟩
/-- a packet, a path and a number -/
def GivesOut (q : PD × PV × Int) (w : World) (e : Ending) (w' : World) : Prop :=
  ∃ A n c A2 n2 c2, e = .returned (.tuple #[.agg #[.int .u32 q.1.src, .int .u32 q.1.dst, .int .u32 q.1.flow, .int .i64 q.1.ttl, .slice A n c], .agg #[.int .i64 q.2.1.iface, .int .u32 q.2.1.addr, .int .u32 q.2.1.router, .int .i64 q.2.1.weight, .slice A2 n2 c2, .int .i64 q.2.1.backup], .int .i64 q.2.2]) ∧
    Ints w' w'.heap.size .i64 A n c q.1.ls ∧ Ints w' w'.heap.size .i64 A2 n2 c2 q.2.1.ls ∧ (∀ ad, A = some ad → w.heap.size ≤ ad.block) ∧ (∀ ad, A2 = some ad → w.heap.size ≤ ad.block) ∧ Below w.heap.size w w'
theorem ints_nil (w : World) (B : Nat) : Ints w B .i64 none 0 0 [] := ⟨by simp, by simp [maxLen], rfl, fun h => absurd h (by omega)⟩
/-- the group behind the failures of the first k interfaces -/
def downTo (act : Int) (n : Nat) (D : List PV) (ds : List Bool) : Nat → List PV
  | 0 => D
  | k + 1 => if ds.getD k false = true then failG act n (downTo act n D ds k) k else downTo act n D ds k
theorem downTo_len {act : Int} {n : Nat} {D : List PV} {ds : List Bool} (h : D.length = n) : ∀ k, (downTo act n D ds k).length = n
  | 0 => h
  | k + 1 => by
    have ih := downTo_len (ds := ds) (act := act) h k
    rw [downTo]
    split
    · unfold failG
      split
      · rw [List.length_map]; exact ih
      · rw [fTo_len, List.length_map]; exact ih
    · exact ih
/-- what happens to a packet without labels -/
def addrOut (H : Bool) (o : Option GE) (p : PD) (ds : List Bool) : PD × PV × Int :=
  if H = true then (zeroPD, zeroP, 1)
  else match o with
    | none => (zeroPD, zeroP, 2)
    | some g => if g.act < 1 then (zeroPD, zeroP, 5) else if p.ttl ≤ 1 then (zeroPD, zeroP, 3)
      else if pick g.act g.n (downTo g.act g.n (g.ps.map PV.dat) ds ds.length) (h3 p.src p.dst p.flow) < 0 ∨ (g.n : Int) ≤ pick g.act g.n (downTo g.act g.n (g.ps.map PV.dat) ds ds.length) (h3 p.src p.dst p.flow) then (zeroPD, zeroP, 4)
      else ({ p with ttl := p.ttl - 1, ls := p.ls ++ ((downTo g.act g.n (g.ps.map PV.dat) ds ds.length).getD (pick g.act g.n (downTo g.act g.n (g.ps.map PV.dat) ds ds.length) (h3 p.src p.dst p.flow)).toNat zeroP).ls }, (downTo g.act g.n (g.ps.map PV.dat) ds ds.length).getD (pick g.act g.n (downTo g.act g.n (g.ps.map PV.dat) ds ds.length) (h3 p.src p.dst p.flow)).toNat zeroP, 0)
def addrR (es : List Ent) (gs : List GE) (ls : List Int) (p : PD) (ds : List Bool) : PD × PV × Int := addrOut (ls.any (isAt p.dst)) (lookG es gs p.dst.toNat) p ds
end Go.Proofs.YtplppbgkkfjknaaGreatDoor
namespace Go.Proofs.YtplppbgkkfjknaaGreatDoor
open Go.RowKit

set_option linter.unusedVariables false
set_option linter.unusedSimpArgs false
theorem four_blks (w : World) (T0 T1 T2 T3 : TypeId) (x0 x1 x2 x3 : Array Value) : let W := (((w.alloc (.cells x0 T0)).alloc (.cells x1 T1)).alloc (.cells x2 T2)).alloc (.cells x3 T3)
    Blk W w.heap.size T0 x0.toList ∧ Blk W (w.heap.size + 1) T1 x1.toList ∧ Blk W (w.heap.size + 1 + 1) T2 x2.toList ∧ Blk W (w.heap.size + 1 + 1 + 1) T3 x3.toList ∧ Below w.heap.size w W := by
  have h2 := Blk.new2 (w.alloc (.cells x0 T0)) (.cells x1 T1) T2 x2
  have h3 := Blk.new2 ((w.alloc (.cells x0 T0)).alloc (.cells x1 T1)) (.cells x2 T2) T3 x3
  simp only [World.size_alloc] at h2 h3
  exact ⟨(((Blk.new w T0 x0).keep (belowA _ _)).keep (belowA _ _)).keep (belowA _ _), ((Blk.new2 w _ T1 x1).keep (belowA _ _)).keep (belowA _ _), h2.keep (belowA _ _), h3, below3 (below3 (below3 (belowA _ _) (belowA _ _)) (belowA _ _)) (belowA _ _)⟩
theorem failG_ls {Q : List Int → Prop} {act : Int} {n : Nat} {D : List PV} {i : Int} (h0 : Q []) (h : ∀ d ∈ D, Q d.ls) : ∀ d ∈ failG act n D i, Q d.ls := by
  have hP : ∀ {ds : List PV} {p : PV}, (∀ d ∈ ds, Q d.ls) → Q p.ls → Q (failP ds i p).ls := by
    intro ds p hs hp
    unfold failP
    split
    · split
      · show Q (bk ds p).ls
        unfold bk
        rcases getD_mem (ds := ds) (j := p.backup.toNat) with h | h
        · exact hs _ h
        · rw [h]; exact h0
      · exact hp
    · split
      · exact hp
      · exact hp
  have hT : ∀ {ds : List PV}, (∀ d ∈ ds, Q d.ls) → ∀ k, ∀ d ∈ fTo ds i k, Q d.ls := by
    intro ds hs k
    induction k with
    | zero => exact hs
    | succ k ih =>
      intro d hd
      rw [fTo] at hd
      rcases List.mem_or_eq_of_mem_set hd with h | rfl
      · exact ih d h
      · refine hP hs ?_
        rcases getD_mem (ds := ds) (j := k) with h | h
        · exact hs _ h
        · rw [h]; exact h0
  have hD : ∀ d ∈ D.map PV.dat, Q d.ls := by
    intro d hd
    obtain ⟨p, hp, rfl⟩ := List.mem_map.1 hd
    exact h p hp
  unfold failG
  split
  · exact hD
  · exact hT hD _
theorem downTo_ls {Q : List Int → Prop} {act : Int} {n : Nat} {D : List PV} {ds : List Bool} (h0 : Q []) (h : ∀ d ∈ D, Q d.ls) : ∀ k, ∀ d ∈ downTo act n D ds k, Q d.ls
  | 0 => h
  | k + 1 => by
    rw [downTo]
    split
    · exact failG_ls h0 (downTo_ls h0 h k)
    · exact downTo_ls h0 h k
theorem two_save {w w' : World} {b1 b2 g : Nat} {T1 T2 : TypeId} {c1 c2 : List Value} (h : Blk w b1 T1 c1 ∧ Blk w b2 T2 c2) (hs : Save g w w') (h1 : b1 ≠ g) (h2 : b2 ≠ g) : Blk w' b1 T1 c1 ∧ Blk w' b2 T2 c2 := ⟨h.1.save hs h1, h.2.save hs h2⟩
theorem group_in {n : Nat} {w w' : World} {A : Option Addr} {c : Nat} {qs : List PV} (ho : 0 < n → ∃ g, A = some ⟨g, 0, none⟩ ∧ OwnP w' w.heap.size g n c qs) (hf : ∀ p ∈ qs, FreshL w.heap.size p) : In (fun q => w.heap.size ≤ q) A n qs := by
  refine ⟨fun hn ad e => ?_, fun p hp hn ad e => hf p hp hn ad e⟩
  obtain ⟨g, e2, h⟩ := ho hn
  rw [e] at e2
  injection e2 with e2
  subst e2
  exact h.lt.1
/-- the loop over the interfaces: the group's box in gb -/
def AddrI (w : World) (gb dn n : Nat) (act : Int) (D : List PV) (ds : List Bool) (pk : List Value) (iv : Value) (W : World) : Prop :=
  ∃ (k : Nat) (A : Option Addr) (c : Nat) (qs : List PV), k ≤ dn ∧ iv = .int .i64 k ∧ Hid (Blk W (w.heap.size + 1) 54 pk) ∧ Hid (Blk W (w.heap.size + 1 + 1) 54 [.int .u32 0, .int .u32 0, .int .u32 0, .int .i64 0, .slice none 0 0]) ∧ Hid (Blk W (w.heap.size + 1 + 1 + 1) 57 [.int .i64 0, .int .u32 0, .int .u32 0, .int .i64 0, .slice none 0 0, .int .i64 0]) ∧ Hid (Blk W gb 47 [.int .i64 act, .slice A n c]) ∧
    Hid (Paths W W.heap.size A n c qs) ∧ Hid (qs.map PV.dat = downTo act n D ds k) ∧ Hid (In (· ≠ gb) A n qs) ∧ Hid (Below w.heap.size w W)
set_option maxRecDepth 100000 in
set_option maxHeartbeats 8000000 in
theorem addr_fib_any (tA gA lA bA nA : Option Addr) (tn tc gn gc ln lc bn bc nn nc : Nat) (dA A : Option Addr) (dn dc n c B : Nat) (es : List Ent) (gs : List GE) (ls : List Int) (p : PD) (ds : List Bool) (w : World) (ht : Ents w B tA tn tc es) (hg : Grps w B gA gn gc gs) (hl : Ints w B .u32 lA ln lc ls) (hd : Bls w B dA dn dc ds) (hp : Ints w B .i64 A n c p.ls) (hB : B ≤ w.heap.size)
    (htn : tn ≤ 140737488355328) (hln : ln ≤ 140737488355328) (hdn : dn ≤ 140737488355328) (hs : ∀ g ∈ gs, g.n ≤ 1000 ∧ ∀ q ∈ g.ps, q.ls.length ≤ 1000) (hn : n ≤ 1000000) (h0 : 0 ≤ p.src ∧ p.src < 4294967296) (h1 : 0 ≤ p.dst ∧ p.dst < 4294967296) (h2 : 0 ≤ p.flow ∧ p.flow < 4294967296) (ht1 : -9223372036854775808 ≤ p.ttl ∧ p.ttl ≤ 9223372036854775807) :
    Calls Tryz.prog 39 #[.agg #[.slice tA tn tc, .slice gA gn gc, .slice lA ln lc, .slice bA bn bc, .slice nA nn nc], .agg #[.int .u32 p.src, .int .u32 p.dst, .int .u32 p.flow, .int .i64 p.ttl, .slice A n c], .slice dA dn dc] w (GivesOut (addrR es gs ls p ds) w) := by
  obtain ⟨src, dst, fl, ttl, pl⟩ := p
  dsimp only at hp h0 h1 h2 ht1 ⊢
  obtain ⟨a, rfl⟩ : ∃ a : Nat, dst = a := ⟨dst.toNat, by omega⟩
  have ha : a < 4294967296 := by omega
  obtain ⟨w1, hw1⟩ : ∃ w1, (((w.alloc (.cells #[.slice tA tn tc, .slice gA gn gc, .slice lA ln lc, .slice bA bn bc, .slice nA nn nc] 35)).alloc (.cells #[.int .u32 src, .int .u32 a, .int .u32 fl, .int .i64 ttl, .slice A n c] 54)).alloc (.cells #[.int .u32 0, .int .u32 0, .int .u32 0, .int .i64 0, .slice none 0 0] 54)).alloc (.cells #[.int .i64 0, .int .u32 0, .int .u32 0, .int .i64 0, .slice none 0 0, .int .i64 0] 57) = w1 := ⟨_, rfl⟩
  obtain ⟨k0, k1, k2, k3, k4⟩ := four_blks w 35 54 54 57 #[.slice tA tn tc, .slice gA gn gc, .slice lA ln lc, .slice bA bn bc, .slice nA nn nc] #[.int .u32 src, .int .u32 a, .int .u32 fl, .int .i64 ttl, .slice A n c] #[.int .u32 0, .int .u32 0, .int .u32 0, .int .i64 0, .slice none 0 0] #[.int .i64 0, .int .u32 0, .int .u32 0, .int .i64 0, .slice none 0 0, .int .i64 0]
  rw [hw1] at k0 k1 k2 k3 k4
  have HF1 : Hid (Blk w1 w.heap.size 35 [.slice tA tn tc, .slice gA gn gc, .slice lA ln lc, .slice bA bn bc, .slice nA nn nc]) := k0
  have HK1 : Hid (Blk w1 (w.heap.size + 1) 54 [.int .u32 src, .int .u32 a, .int .u32 fl, .int .i64 ttl, .slice A n c]) := k1
  have HP1 : Hid (Blk w1 (w.heap.size + 1 + 1) 54 [.int .u32 0, .int .u32 0, .int .u32 0, .int .i64 0, .slice none 0 0]) := k2
  have HQ1 : Hid (Blk w1 (w.heap.size + 1 + 1 + 1) 57 [.int .i64 0, .int .u32 0, .int .u32 0, .int .i64 0, .slice none 0 0, .int .i64 0]) := k3
  have HB1 : Hid (Below w.heap.size w w1) := k4
  clear k0 k1 k2 k3 k4
  have HLW : Hid (∀ W, Below w.heap.size w W → Ints W B .u32 lA ln lc ls) := fun W h => hl.below (h.mono hB)
  have HDW : Hid (∀ W, Below w.heap.size w W → Bls W B dA dn dc ds) := fun W h => Recs.below hd (h.mono hB)
  have HPW : Hid (∀ W, Below w.heap.size w W → Ints W B .i64 A n c pl) := fun W h => hp.below (h.mono hB)
  have HDL : Hid (ds.length = dn) := hd.2
  have HS := Lib.hid hs
  have hg0 := hg
  have HLK := Lib.hid (lookup_fib_any tA gA lA bA nA tn tc gn gc ln lc bn bc nn nc B es gs a w1 (ht.below (HB1.out.mono hB)) (hg.below (HB1.out.mono hB)) (by have := HB1.out.size; omega) htn ha (fun g hg => ⟨(hs g hg).1, fun q hq => by have h1 := (hs g hg).2 q hq; have h2 := (hg0.2 g hg).even q hq; omega⟩))
  have HR : Hid (addrR es gs ls ⟨src, a, fl, ttl, pl⟩ ds = addrOut (ls.any (isAt a)) (lookG es gs a) ⟨src, a, fl, ttl, pl⟩ ds) := by
    show _ = _
    unfold addrR
    dsimp only
    rw [Int.toNat_natCast]
  have HGM : Hid (∀ g, lookG es gs a = some g → g.n ≤ 1000 ∧ ∀ q ∈ g.ps, q.ls.length ≤ 1000) := by
    intro g hx
    unfold lookG at hx
    obtain ⟨x, _, hx⟩ := Option.bind_eq_some_iff.1 hx
    split at hx
    · cases hx
    · exact hs g (List.mem_of_getElem? hx)
  obtain ⟨X, hX⟩ : ∃ X, lookG es gs a = X := ⟨_, rfl⟩
  obtain ⟨H, hH⟩ : ∃ H, ls.any (isAt a) = H := ⟨_, rfl⟩
  rw [hX] at HLK HGM
  rw [hX, hH] at HR
  obtain ⟨Rz, hRz⟩ : ∃ Rz, addrR es gs ls ⟨src, a, fl, ttl, pl⟩ ds = Rz := ⟨_, rfl⟩
  rw [hRz] at HR ⊢
  have f0 := HF1.out.cell 0
  have f1 := HF1.out.cell 1
  have f2 := HF1.out.cell 2
  have f3 := HF1.out.cell 3
  have f4 := HF1.out.cell 4
  have q1 := HK1.out.cell 1
  simp only [List.getElem?_cons_zero, List.getElem?_cons_succ] at f0 f1 f2 f3 f4 q1
  have hl1 := HQ1.out.lt
  have hl2 : w.heap.size < w1.heap.size := by omega
  have hl3 : w.heap.size + 1 < w1.heap.size := by omega
  clear ht hg hg0 hl hd hp hs hX hRz
  go_enter Tryz.func39, Tryz.ntmps39
  go_wp2_with fail
  refine HLK.out.mono ?_
  rintro e w2 hgv
  cases X with
  | none =>
    obtain ⟨he, hb2⟩ : e = .returned (.tuple #[.agg #[.int .i64 0, .slice none 0 0], .bool false]) ∧ Below w1.heap.size w1 w2 := hgv
    subst he
    have hb2s := hb2.size
    obtain ⟨w3, hw3⟩ : ∃ w3, w2.alloc (.cells #[.int .i64 0, .slice none 0 0] 47) = w3 := ⟨_, rfl⟩
    have hb3 : Below w2.heap.size w2 w3 := by rw [← hw3]; exact belowA _ _
    have HE3 : Hid (Blk w3 w2.heap.size 47 [.int .i64 0, .slice none 0 0]) := by show Blk _ _ _ _; rw [← hw3]; exact Blk.new w2 _ _
    obtain ⟨w4, hw4⟩ : ∃ w4, w3.setRow w2.heap.size #[.int .i64 0, .slice none 0 0] = w4 := ⟨_, rfl⟩
    have hsr : Save w2.heap.size w3 w4 := by rw [← hw4]; exact Save.row _ _ _
    have hb12 := below3 hb2 hb3
    have HB4 := Lib.hid ((below3 HB1.out hb12).trans (hsr.below (by omega) (below3 HB1.out hb12).size))
    have HF4 := Lib.hid ((HF1.out.keep hb12).save hsr (by omega))
    have HK4 := Lib.hid ((HK1.out.keep hb12).save hsr (by omega))
    have HP4 := Lib.hid ((HP1.out.keep hb12).save hsr (by omega))
    have HQ4 := Lib.hid ((HQ1.out.keep hb12).save hsr (by omega))
    have f2' := HF4.out.cell 2
    have q1' := HK4.out.cell 1
    simp only [List.getElem?_cons_zero, List.getElem?_cons_succ] at f2' q1'
    have hlt4 := HQ4.out.lt
    have hlf4 := HF4.out.lt
    have hlk4 := HK4.out.lt
    have HCN := Lib.hid (hasAddr_any lA ln lc B ls a w4 (HLW.out _ HB4.out) (by have := HB4.out.size; omega) hln)
    rw [hH] at HCN
    clear HLK hb2 hb3 hb12 hsr f0 f1 f2 f3 f4 q1 hw1 HF1 HK1 HP1 HQ1 hH
    go_wp2_with (refine wpList_store_blk rfl 47 _ _ rfl w2.heap.size rfl rfl HE3.out (by kernel_rfl) rfl (by kernel_rfl) ?_)
    try rw [hw4]
    refine HCN.out.mono ?_
    rintro e w5 ⟨rfl, rfl⟩
    clear HCN
    cases H with
    | true =>
      have HF : Hid (Rz = (zeroPD, zeroP, 1)) := by show _ = _; rw [HR.out]; rfl
      obtain ⟨HQz, HPz1, HPz2, HBz, _⟩ := out_facts [.int .u32 0, .int .u32 0, .int .u32 0, .int .i64 0, .slice none 0 0] [.int .i64 0, .int .u32 0, .int .u32 0, .int .i64 0, .slice none 0 0, .int .i64 0] HP4.out HQ4.out HB4.out (Nat.le_refl _)
      go_wp2_with (first | (refine wpList_store_blk rfl 54 _ _ rfl (w.heap.size + 1 + 1) rfl rfl HP4.out (by kernel_rfl) rfl (by kernel_rfl) ?_) | (refine wpList_store_blk rfl 57 _ _ rfl (w.heap.size + 1 + 1 + 1) rfl rfl HQz.out (by kernel_rfl) rfl (by kernel_rfl) ?_))
      refine bodyPost_ret (results_cells3 rfl _ (w.heap.size + 1 + 1) (w.heap.size + 1 + 1 + 1) _ _ rfl rfl HPz1.out HPz2.out Tryz.underlying54 rfl (by kernel_rfl) Tryz.underlying57 rfl (by kernel_rfl)) rfl ?_
      rw [HF.out]
      exact ⟨none, 0, 0, none, 0, 0, rfl, ints_nil _ _, ints_nil _ _, fun _ h => (by cases h), fun _ h => (by cases h), HBz.out⟩
    | false =>
      have HF : Hid (Rz = (zeroPD, zeroP, 2)) := by show _ = _; rw [HR.out]; rfl
      obtain ⟨HQz, HPz1, HPz2, HBz, _⟩ := out_facts [.int .u32 0, .int .u32 0, .int .u32 0, .int .i64 0, .slice none 0 0] [.int .i64 0, .int .u32 0, .int .u32 0, .int .i64 0, .slice none 0 0, .int .i64 0] HP4.out HQ4.out HB4.out (Nat.le_refl _)
      go_wp2_with (first | (refine wpList_store_blk rfl 54 _ _ rfl (w.heap.size + 1 + 1) rfl rfl HP4.out (by kernel_rfl) rfl (by kernel_rfl) ?_) | (refine wpList_store_blk rfl 57 _ _ rfl (w.heap.size + 1 + 1 + 1) rfl rfl HQz.out (by kernel_rfl) rfl (by kernel_rfl) ?_))
      refine bodyPost_ret (results_cells3 rfl _ (w.heap.size + 1 + 1) (w.heap.size + 1 + 1 + 1) _ _ rfl rfl HPz1.out HPz2.out Tryz.underlying54 rfl (by kernel_rfl) Tryz.underlying57 rfl (by kernel_rfl)) rfl ?_
      rw [HF.out]
      exact ⟨none, 0, 0, none, 0, 0, rfl, ints_nil _ _, ints_nil _ _, fun _ h => (by cases h), fun _ h => (by cases h), HBz.out⟩
  | some g =>
    obtain ⟨A2, c2, qs, he, hpq, hdat, _, hb2⟩ := hgv
    obtain ⟨hg1, hg2⟩ := HGM.out g rfl
    obtain ⟨act, gA2, gn2, gc2, gps⟩ := g
    dsimp only at he hpq hdat hg1 hg2
    subst he
    have hb2s := hb2.size
    have HGL : Hid (∀ q ∈ gps, q.ls.length ≤ 1000) := hg2
    obtain ⟨D, hD⟩ : ∃ D, gps.map PV.dat = D := ⟨_, rfl⟩
    have HRS : Hid (addrOut false (some ⟨act, gA2, gn2, gc2, gps⟩) ⟨src, a, fl, ttl, pl⟩ ds = if act < 1 then (zeroPD, zeroP, (5 : Int)) else if ttl ≤ 1 then (zeroPD, zeroP, 3)
        else if pick act gn2 (downTo act gn2 D ds ds.length) (h3 src a fl) < 0 ∨ (gn2 : Int) ≤ pick act gn2 (downTo act gn2 D ds ds.length) (h3 src a fl) then (zeroPD, zeroP, 4)
        else ((⟨src, a, fl, ttl - 1, pl ++ ((downTo act gn2 D ds ds.length).getD (pick act gn2 (downTo act gn2 D ds ds.length) (h3 src a fl)).toNat zeroP).ls⟩ : PD), (downTo act gn2 D ds ds.length).getD (pick act gn2 (downTo act gn2 D ds ds.length) (h3 src a fl)).toNat zeroP, 0)) := by
      show _ = _
      rw [← hD]
      rfl
    have HDL2 : Hid (∀ d ∈ D, d.ls.length ≤ 1000) := by
      intro d hd
      rw [← hdat.trans hD] at hd
      obtain ⟨q, hq, rfl⟩ := List.mem_map.1 hd
      have h1 : q.dat ∈ gps.map PV.dat := by rw [← hdat]; exact List.mem_map_of_mem hq
      obtain ⟨q2, hq2, h3⟩ := List.mem_map.1 h1
      have h4 := HGL.out q2 hq2
      have h6 : q2.dat.ls = q.dat.ls := congrArg PV.ls h3
      have h5 : q2.ls = q.ls := h6
      show q.ls.length ≤ 1000
      rw [← h5]
      exact h4
    have HDN : Hid (D.length = gn2) := by
      show _ = _
      rw [← hdat.trans hD, List.length_map]
      exact hpq.1.2
    obtain ⟨w3, hw3⟩ : ∃ w3, w2.alloc (.cells #[.int .i64 act, .slice A2 gn2 c2] 47) = w3 := ⟨_, rfl⟩
    have hb3 : Below w2.heap.size w2 w3 := by rw [← hw3]; exact belowA _ _
    have HG3 : Hid (Blk w3 w2.heap.size 47 [.int .i64 act, .slice A2 gn2 c2]) := by show Blk _ _ _ _; rw [← hw3]; exact Blk.new w2 _ _
    have hb12 := below3 hb2 hb3
    have HB3 := Lib.hid (below3 HB1.out hb12)
    have HF3 := Lib.hid (HF1.out.keep hb12)
    have HK3 := Lib.hid (HK1.out.keep hb12)
    have HP3 := Lib.hid (HP1.out.keep hb12)
    have HQ3 := Lib.hid (HQ1.out.keep hb12)
    have HI0 : Hid (AddrI w w2.heap.size dn gn2 act D ds [.int .u32 src, .int .u32 a, .int .u32 fl, .int .i64 ttl, .slice A n c] (.int .i64 (0 : Nat)) w3) :=
      ⟨0, A2, c2, qs, Nat.zero_le _, rfl, HK3, HP3, HQ3, HG3, Lib.hid ((hpq.below hb3).more hb3.size), Lib.hid (hdat.trans hD), Lib.hid ((paths_in hpq).mono fun q h => by show q ≠ _; omega), HB3⟩
    have f2' := HF3.out.cell 2
    have q1' := HK3.out.cell 1
    have q3' := HK3.out.cell 3
    have g0' := HG3.out.cell 0
    simp only [List.getElem?_cons_zero, List.getElem?_cons_succ] at f2' q1' q3' g0'
    have hlt3 := HQ3.out.lt
    have hlf3 := HF3.out.lt
    have hlk3 := HK3.out.lt
    have hlg3 := HG3.out.lt
    have HCN := Lib.hid (hasAddr_any lA ln lc B ls a w3 (HLW.out _ HB3.out) (by have := HB3.out.size; omega) hln)
    rw [hH] at HCN
    clear HLK hb2 hb3 hb12 f0 f1 f2 f3 f4 q1 hw1 HF1 HK1 HP1 HQ1 hH hpq hdat hD hg2 HGM
    go_wp2_with fail
    try rw [hw3]
    refine HCN.out.mono ?_
    rintro e w5 ⟨rfl, rfl⟩
    clear HCN hw3
    cases H with
    | true =>
      have HF : Hid (Rz = (zeroPD, zeroP, 1)) := by show _ = _; rw [HR.out]; rfl
      obtain ⟨HQz, HPz1, HPz2, HBz, _⟩ := out_facts [.int .u32 0, .int .u32 0, .int .u32 0, .int .i64 0, .slice none 0 0] [.int .i64 0, .int .u32 0, .int .u32 0, .int .i64 0, .slice none 0 0, .int .i64 0] HP3.out HQ3.out HB3.out (Nat.le_refl _)
      go_wp2_with (first | (refine wpList_store_blk rfl 54 _ _ rfl (w.heap.size + 1 + 1) rfl rfl HP3.out (by kernel_rfl) rfl (by kernel_rfl) ?_) | (refine wpList_store_blk rfl 57 _ _ rfl (w.heap.size + 1 + 1 + 1) rfl rfl HQz.out (by kernel_rfl) rfl (by kernel_rfl) ?_))
      refine bodyPost_ret (results_cells3 rfl _ (w.heap.size + 1 + 1) (w.heap.size + 1 + 1 + 1) _ _ rfl rfl HPz1.out HPz2.out Tryz.underlying54 rfl (by kernel_rfl) Tryz.underlying57 rfl (by kernel_rfl)) rfl ?_
      rw [HF.out]
      exact ⟨none, 0, 0, none, 0, 0, rfl, ints_nil _ _, ints_nil _ _, fun _ h => (by cases h), fun _ h => (by cases h), HBz.out⟩
    | false =>
      have HR2 := Lib.hid (HR.out.trans HRS.out)
      clear HR HRS
      by_cases ha1 : act < 1
      · have HF : Hid (Rz = (zeroPD, zeroP, 5)) := by show _ = _; rw [HR2.out, if_pos ha1]
        have da : decide (act < 1) = true := decide_eq_true ha1
        clear ha1
        obtain ⟨HQz, HPz1, HPz2, HBz, _⟩ := out_facts [.int .u32 0, .int .u32 0, .int .u32 0, .int .i64 0, .slice none 0 0] [.int .i64 0, .int .u32 0, .int .u32 0, .int .i64 0, .slice none 0 0, .int .i64 0] HP3.out HQ3.out HB3.out (Nat.le_refl _)
        go_wp2_with (first | (refine wpList_store_blk rfl 54 _ _ rfl (w.heap.size + 1 + 1) rfl rfl HP3.out (by kernel_rfl) rfl (by kernel_rfl) ?_) | (refine wpList_store_blk rfl 57 _ _ rfl (w.heap.size + 1 + 1 + 1) rfl rfl HQz.out (by kernel_rfl) rfl (by kernel_rfl) ?_))
        refine bodyPost_ret (results_cells3 rfl _ (w.heap.size + 1 + 1) (w.heap.size + 1 + 1 + 1) _ _ rfl rfl HPz1.out HPz2.out Tryz.underlying54 rfl (by kernel_rfl) Tryz.underlying57 rfl (by kernel_rfl)) rfl ?_
        rw [HF.out]
        exact ⟨none, 0, 0, none, 0, 0, rfl, ints_nil _ _, ints_nil _ _, fun _ h => (by cases h), fun _ h => (by cases h), HBz.out⟩
      have da : decide (act < 1) = false := decide_eq_false ha1
      by_cases ht1' : ttl ≤ 1
      · have HF : Hid (Rz = (zeroPD, zeroP, 3)) := by show _ = _; rw [HR2.out, if_neg ha1, if_pos ht1']
        have dt : decide (ttl ≤ 1) = true := decide_eq_true ht1'
        clear ha1 ht1'
        obtain ⟨HQz, HPz1, HPz2, HBz, _⟩ := out_facts [.int .u32 0, .int .u32 0, .int .u32 0, .int .i64 0, .slice none 0 0] [.int .i64 0, .int .u32 0, .int .u32 0, .int .i64 0, .slice none 0 0, .int .i64 0] HP3.out HQ3.out HB3.out (Nat.le_refl _)
        go_wp2_with (first | (refine wpList_store_blk rfl 54 _ _ rfl (w.heap.size + 1 + 1) rfl rfl HP3.out (by kernel_rfl) rfl (by kernel_rfl) ?_) | (refine wpList_store_blk rfl 57 _ _ rfl (w.heap.size + 1 + 1 + 1) rfl rfl HQz.out (by kernel_rfl) rfl (by kernel_rfl) ?_))
        refine bodyPost_ret (results_cells3 rfl _ (w.heap.size + 1 + 1) (w.heap.size + 1 + 1 + 1) _ _ rfl rfl HPz1.out HPz2.out Tryz.underlying54 rfl (by kernel_rfl) Tryz.underlying57 rfl (by kernel_rfl)) rfl ?_
        rw [HF.out]
        exact ⟨none, 0, 0, none, 0, 0, rfl, ints_nil _ _, ints_nil _ _, fun _ h => (by cases h), fun _ h => (by cases h), HBz.out⟩
      have dt : decide (ttl ≤ 1) = false := decide_eq_false ht1'
      have HR3 := HR2.out
      rw [if_neg ha1, if_neg ht1', HDL.out] at HR3
      have HR4 := Lib.hid HR3
      clear HR3 HR2 ha1
      go_wp2
      go_loopw [48] (fun iv wr => AddrI w w2.heap.size dn gn2 act D ds [.int .u32 src, .int .u32 a, .int .u32 fl, .int .i64 ttl, .slice A n c] iv wr) (fun iv _ => dn - (intOf iv).toNat)
      case atStart => exact HI0.out
      case round =>
        obtain ⟨k, A3, c3, rs, hk, rfl, hK, hP, hQ, hG, hPS, hDT, hIN, hB5⟩ := hrel
        clear HI0 f2' q1' q3' g0' HG3 HF3 HK3 HP3 HQ3 hlt3 hlf3 hlk3 hlg3 da dt
        by_cases hlt : k < dn
        case neg =>
          obtain rfl : dn = k := by omega
          obtain ⟨GT, hGT⟩ : ∃ GT, downTo act gn2 D ds dn = GT := ⟨_, rfl⟩
          rw [hGT] at hDT HR4
          have hev := hPS.out.even
          have HGLS : Hid (∀ d ∈ GT, d.ls.length ≤ 1000) := by
            intro d hd
            rw [← hGT] at hd
            exact downTo_ls (Q := fun l => l.length ≤ 1000) (by simp) HDL2.out dn d hd
          obtain ⟨fv, hfv⟩ : ∃ fv, h3 src a fl = fv := ⟨_, rfl⟩
          have hfb := h3_bd src a fl
          rw [hfv] at hfb HR4
          obtain ⟨K0, hKK⟩ : ∃ K0, pick act gn2 GT fv = K0 := ⟨_, rfl⟩
          rw [hKK] at HR4
          have hpk : pick act gn2 rs fv = K0 := by rw [← hKK, ← hDT.out, pick_dat hev]
          obtain ⟨wD, hwD⟩ : ∃ wD, wr.drew = wD := ⟨_, rfl⟩
          have hbD : Below wr.heap.size wr wD := by rw [← hwD]; exact (Below.refl _ _).drew
          have hszD := hbD.size
          have HGD := Lib.hid (hG.out.keep hbD)
          have HKD := Lib.hid (hK.out.keep hbD)
          have HPD := Lib.hid (hP.out.keep hbD)
          have HQD := Lib.hid (hQ.out.keep hbD)
          have HPS := Lib.hid ((hPS.out.below hbD).more hszD)
          have HBD := Lib.hid (below3 hB5.out hbD)
          have HFL := Lib.hid (flow_any src a fl ttl (.slice A n c) wD h0 h1 h2)
          have HPK : Hid (∀ W, Below wD.heap.size wD W → Calls Tryz.prog 76 #[.agg #[.int .i64 act, .slice A3 gn2 c3], .int .u32 fv] W fun e w' => e = .returned (.int .i64 K0) ∧ Below W.heap.size W w') := by
            intro W hW
            have h := pick_any A3 gn2 c3 W.heap.size act fv rs W ((HPS.out.below hW).more hW.size) (Nat.le_refl _) (by omega) hfb
            rw [hpk] at h
            exact h
          rw [hfv] at HFL
          have HSD : Hid (Blk wD w2.heap.size 47 [.int .i64 act, .slice A3 gn2 c3] ∧ Blk wD (w.heap.size + 1) 54 [.int .u32 src, .int .u32 a, .int .u32 fl, .int .i64 ttl, .slice A n c]) := ⟨HGD.out, HKD.out⟩
          have HDT := Lib.hid hDT.out
          clear hK hP hQ hG hPS hDT hIN hB5 hGT hev hfv hKK hpk hbD
          go_upto_region 16 with fail
          refine wp_region_noPanic ?_
          refine wp_region_held_drew (S := fun V => Blk V w2.heap.size 47 [.int .i64 act, .slice A3 gn2 c3] ∧ Blk V (w.heap.size + 1) 54 [.int .u32 src, .int .u32 a, .int .u32 fl, .int .i64 ttl, .slice A n c]) (by kernel_rfl) (by rw [hwD]; exact HSD.out) (fun hHeld => ?_)
          rw [hwD] at hHeld ⊢
          clear hwD
          refine take_in (i := 0) _ (some 59) (by kernel_rfl) (by kernel_rfl) (by kernel_rfl) (by kernel_rfl) (fun _ _ _ h => h) (by rfl) (fun o ho w hSw => by cases ho; exact run_load_blk _ _ rfl _ rfl (hSw.1) _ Tryz.underlying47 rfl (by kernel_rfl)) hHeld ?_
          try simp only [Act.put, List.setIfInBounds_toArray, List.set_cons_zero, List.set_cons_succ]
          refine take_in (i := 1) _ (some 60) (by kernel_rfl) (by kernel_rfl) (by kernel_rfl) (by kernel_rfl) (fun _ _ _ h => h) (by rfl) (fun o ho w hSw => by cases ho; exact run_load_blk _ _ rfl _ rfl (hSw.2) _ Tryz.underlying54 rfl (by kernel_rfl)) hHeld ?_
          try simp only [Act.put, List.setIfInBounds_toArray, List.set_cons_zero, List.set_cons_succ]
          refine wpAnyH_ready (rs := [2]) (by kernel_rfl) (by simp) ?_
          refine AllReadyH.cons (o := _) rfl (fun K hK => ?_) AllReadyH.nil
          go_simp
          go_at_call 77
          with_reducible refine HFL.out.mono ?_
          rintro e wX ⟨rfl, hbX⟩
          have HPKX := Lib.hid (HPK.out wX hbX)
          have HGX := Lib.hid (HGD.out.keep hbX)
          have HKX := Lib.hid (HKD.out.keep hbX)
          have HPX := Lib.hid (HPD.out.keep hbX)
          have HQX := Lib.hid (HQD.out.keep hbX)
          have HPSX := Lib.hid ((HPS.out.below hbX).more hbX.size)
          have HBX := Lib.hid (below3 HBD.out hbX)
          have HSX : Hid (Blk wX w2.heap.size 47 [.int .i64 act, .slice A3 gn2 c3] ∧ Blk wX (w.heap.size + 1) 54 [.int .u32 src, .int .u32 a, .int .u32 fl, .int .i64 ttl, .slice A n c]) := ⟨HGX.out, HKX.out⟩
          clear hbX
          refine hK.out _ _ HSX.out (fun hHeld => ?_)
          clear hK K
          try simp only [Act.put, List.setIfInBounds_toArray, List.set_cons_zero, List.set_cons_succ]
          refine wpAnyH_ready (rs := [3]) (by kernel_rfl) (by simp) ?_
          refine AllReadyH.cons (o := _) rfl (fun K hK => ?_) AllReadyH.nil
          go_simp
          go_at_call 76
          with_reducible refine HPKX.out.mono ?_
          rintro e wY ⟨rfl, hbY⟩
          have HGY := Lib.hid (HGX.out.keep hbY)
          have HKY := Lib.hid (HKX.out.keep hbY)
          have HPY := Lib.hid (HPX.out.keep hbY)
          have HQY := Lib.hid (HQX.out.keep hbY)
          have HPSY := Lib.hid ((HPSX.out.below hbY).more hbY.size)
          have HBY := Lib.hid (below3 HBX.out hbY)
          have HSY : Hid (Blk wY w2.heap.size 47 [.int .i64 act, .slice A3 gn2 c3] ∧ Blk wY (w.heap.size + 1) 54 [.int .u32 src, .int .u32 a, .int .u32 fl, .int .i64 ttl, .slice A n c]) := ⟨HGY.out, HKY.out⟩
          clear hbY
          refine hK.out _ _ HSY.out (fun hHeld => ?_)
          clear hK K
          try simp only [Act.put, List.setIfInBounds_toArray, List.set_cons_zero, List.set_cons_succ]
          refine take_in (i := 4) _ (some 12) (by kernel_rfl) (by kernel_rfl) (by kernel_rfl) (by kernel_rfl) (fun _ _ _ h => h) (by rfl) (fun o ho w hSw => by cases ho; (try dsimp only at hSw); (try go_split_ands); go_simp; (try with_reducible rfl)) hHeld ?_
          try simp only [Act.put, List.setIfInBounds_toArray, List.set_cons_zero, List.set_cons_succ]
          refine wpAnyH_done (by kernel_rfl) ?_ _
          refine NoPanic.normal ?_
          clear HSX HSY HSD HPK HPKX HFL HGX HKX HPX HQX HPSX HBX HGD HKD HPD HQD HPS HBD
          have g1' := HGY.out.cell 1
          simp only [List.getElem?_cons_zero, List.getElem?_cons_succ] at g1'
          have hlgY := HGY.out.lt
          by_cases hK0 : K0 < 0
          · have HF : Hid (Rz = (zeroPD, zeroP, 4)) := by show _ = _; rw [HR4.out, if_pos (.inl hK0)]
            have dk : decide (K0 < 0) = true := decide_eq_true hK0
            clear hK0
            obtain ⟨HQz, HPz1, HPz2, HBz, _⟩ := out_facts [.int .u32 0, .int .u32 0, .int .u32 0, .int .i64 0, .slice none 0 0] [.int .i64 0, .int .u32 0, .int .u32 0, .int .i64 0, .slice none 0 0, .int .i64 0] HPY.out HQY.out HBY.out (Nat.le_refl _)
            go_wp2_with (first | (refine wpList_store_blk rfl 54 _ _ rfl (w.heap.size + 1 + 1) rfl rfl HPY.out (by kernel_rfl) rfl (by kernel_rfl) ?_) | (refine wpList_store_blk rfl 57 _ _ rfl (w.heap.size + 1 + 1 + 1) rfl rfl HQz.out (by kernel_rfl) rfl (by kernel_rfl) ?_))
            refine bodyPost_ret (results_cells3 rfl _ (w.heap.size + 1 + 1) (w.heap.size + 1 + 1 + 1) _ _ rfl rfl HPz1.out HPz2.out Tryz.underlying54 rfl (by kernel_rfl) Tryz.underlying57 rfl (by kernel_rfl)) rfl ?_
            rw [HF.out]
            exact ⟨none, 0, 0, none, 0, 0, rfl, ints_nil _ _, ints_nil _ _, fun _ h => (by cases h), fun _ h => (by cases h), HBz.out⟩
          obtain ⟨kk, rfl⟩ : ∃ kk : Nat, K0 = kk := ⟨K0.toNat, by omega⟩
          have dk : decide ((kk : Int) < 0) = false := decide_eq_false (by omega)
          by_cases hkn : gn2 ≤ kk
          · have HF : Hid (Rz = (zeroPD, zeroP, 4)) := by show _ = _; rw [HR4.out, if_pos (.inr (by omega))]
            have dn1 : decide ((kk : Int) ≥ (gn2 : Int)) = true := decide_eq_true (by omega)
            have dn2 : decide ((gn2 : Int) ≤ (kk : Int)) = true := decide_eq_true (by omega)
            have dn3 : decide (gn2 ≤ kk) = true := decide_eq_true hkn
            clear hkn
            obtain ⟨HQz, HPz1, HPz2, HBz, _⟩ := out_facts [.int .u32 0, .int .u32 0, .int .u32 0, .int .i64 0, .slice none 0 0] [.int .i64 0, .int .u32 0, .int .u32 0, .int .i64 0, .slice none 0 0, .int .i64 0] HPY.out HQY.out HBY.out (Nat.le_refl _)
            go_wp2_with (first | (refine wpList_store_blk rfl 54 _ _ rfl (w.heap.size + 1 + 1) rfl rfl HPY.out (by kernel_rfl) rfl (by kernel_rfl) ?_) | (refine wpList_store_blk rfl 57 _ _ rfl (w.heap.size + 1 + 1 + 1) rfl rfl HQz.out (by kernel_rfl) rfl (by kernel_rfl) ?_))
            refine bodyPost_ret (results_cells3 rfl _ (w.heap.size + 1 + 1) (w.heap.size + 1 + 1 + 1) _ _ rfl rfl HPz1.out HPz2.out Tryz.underlying54 rfl (by kernel_rfl) Tryz.underlying57 rfl (by kernel_rfl)) rfl ?_
            rw [HF.out]
            exact ⟨none, 0, 0, none, 0, 0, rfl, ints_nil _ _, ints_nil _ _, fun _ h => (by cases h), fun _ h => (by cases h), HBz.out⟩
          have dn1 : decide ((kk : Int) ≥ (gn2 : Int)) = false := decide_eq_false (by omega)
          have dn2 : decide ((gn2 : Int) ≤ (kk : Int)) = false := decide_eq_false (by omega)
          have dn3 : decide (gn2 ≤ kk) = false := decide_eq_false hkn
          obtain ⟨b, o, p, rfl, hbB, hrk, hpl, c0, c1, c2, c3, c4, c5⟩ := HPSY.out.get (j := kk) (by omega)
          have hGK : GT[kk]? = some p.dat := by rw [← HDT.out, List.getElem?_map, hrk]; rfl
          have hlen := HGLS.out p.dat (List.mem_of_getElem? hGK)
          have hxl := hpl.len
          have HF : Hid (Rz = ((⟨src, a, fl, ttl - 1, pl ++ p.ls⟩ : PD), p.dat, 0)) := by
            show _ = _
            rw [HR4.out, if_neg (by omega), Int.toNat_natCast, getD_of hGK]
            rfl
          obtain ⟨xi, xa, xr, xw, xA, xn, xc, xl, xb⟩ := p
          dsimp only at c0 c1 c2 c3 c4 c5 hpl hxl HF
          have hlen2 : xl.length ≤ 1000 := hlen
          have hbw : b < wY.heap.size := hbB
          obtain ⟨wX, hwX⟩ : ∃ wX, wY.alloc (.cells #[.int .i64 xi, .int .u32 xa, .int .u32 xr, .int .i64 xw, .slice xA xn xc, .int .i64 xb] 57) = wX := ⟨_, rfl⟩
          have hbX : Below wY.heap.size wY wX := by rw [← hwX]; exact belowA _ _
          have HXX : Hid (Blk wX wY.heap.size 57 [.int .i64 xi, .int .u32 xa, .int .u32 xr, .int .i64 xw, .slice xA xn xc, .int .i64 xb]) := by show Blk _ _ _ _; rw [← hwX]; exact Blk.new wY _ _
          have HKX := Lib.hid (HKY.out.keep hbX)
          have HPX := Lib.hid (HPY.out.keep hbX)
          have HQX := Lib.hid (HQY.out.keep hbX)
          have HBX := Lib.hid (below3 HBY.out hbX)
          have hszX := hbX.size
          have hNY := HQY.out.lt
          have HC1 := Lib.hid (cloneOwn_any xA xn xc xl wX ((hpl.below hbX).more hszX) (by omega))
          have x4 := HXX.out.cell 4
          simp only [List.getElem?_cons_zero, List.getElem?_cons_succ] at x4
          have hlX := HXX.out.lt
          have hkl : kk < gn2 := by omega
          clear hrk hGK hlen hpl HR4 HDT HGLS hbX HPSY hkn
          go_wp2_with fail
          try rw [hwX]
          refine HC1.out.mono ?_
          rintro e w5 ⟨A5, c5', rfl, ho5, hb5⟩
          obtain ⟨c5, rfl⟩ : ∃ c5, c5 = c5' := ⟨_, rfl⟩
          have hs5 := hb5.size
          have HX5 := Lib.hid (HXX.out.keep hb5)
          have HK5 := Lib.hid (HKX.out.keep hb5)
          have HP5 := Lib.hid (HPX.out.keep hb5)
          have HQ5 := Lib.hid (HQX.out.keep hb5)
          have HB5 := Lib.hid (below3 HBX.out hb5)
          have HO5 := Lib.hid ho5
          have hq5 : ∀ q, (Value.slice A5 xn c5).ownBlock = some q → wX.heap.size ≤ q ∧ q < w5.heap.size := fun q e => World.ownsRow.lt ho5 q e
          have HQ5B := Lib.hid hq5
          obtain ⟨w6, hw6⟩ : ∃ w6, w5.setCell ⟨wY.heap.size, 4, none⟩ (.slice A5 xn c5) = w6 := ⟨_, rfl⟩
          have hv6 : Save wY.heap.size w5 w6 := by rw [← hw6]; exact Save.set
          have HX6 : Hid (Blk w6 wY.heap.size 57 [.int .i64 xi, .int .u32 xa, .int .u32 xr, .int .i64 xw, .slice A5 xn c5, .int .i64 xb]) := by show Blk _ _ _ _; rw [← hw6]; exact HX5.out.set 4 _
          have HK6 := Lib.hid (HK5.out.save hv6 (by omega))
          have HP6 := Lib.hid (HP5.out.save hv6 (by omega))
          have HQ6 := Lib.hid (HQ5.out.save hv6 (by omega))
          have hs6 := hv6.size
          obtain ⟨w7, hw7⟩ : ∃ w7, w6.setCell ⟨w.heap.size + 1, 3, none⟩ (.int .i64 (ttl - 1)) = w7 := ⟨_, rfl⟩
          have hv7 : Save (w.heap.size + 1) w6 w7 := by rw [← hw7]; exact Save.set
          have HK7 : Hid (Blk w7 (w.heap.size + 1) 54 [.int .u32 src, .int .u32 a, .int .u32 fl, .int .i64 (ttl - 1), .slice A n c]) := by show Blk _ _ _ _; rw [← hw7]; exact HK6.out.set 3 _
          have HX7 := Lib.hid (HX6.out.save hv7 (by omega))
          have HP7 := Lib.hid (HP6.out.save hv7 (by omega))
          have HQ7 := Lib.hid (HQ6.out.save hv7 (by omega))
          have hs7 := hv7.size
          have HB7 : Hid (Below w.heap.size w w7) := (HB5.out.trans (hv6.below (by omega) HB5.out.size)).trans (hv7.below (by omega) (by have := HB5.out.size; omega))
          obtain ⟨wD, hwD⟩ : ∃ wD, w7.drew = wD := ⟨_, rfl⟩
          have hbD : Below w7.heap.size w7 wD := by rw [← hwD]; exact (Below.refl _ _).drew
          have hsD := hbD.size
          have HKD := Lib.hid (HK7.out.keep hbD)
          have HXD := Lib.hid (HX7.out.keep hbD)
          have HPD := Lib.hid (HP7.out.keep hbD)
          have HQD := Lib.hid (HQ7.out.keep hbD)
          have HBD := Lib.hid (below3 HB7.out hbD)
          have HKP5 : Hid (Keep (fun q => q ≠ wY.heap.size ∧ q ≠ w.heap.size + 1) w5 wD) := ((Keep.save hv6 fun k h => h.1).trans (Keep.save hv7 fun k h => h.2)).trans (Keep.of hbD)
          have HC2 := Lib.hid (cloneOwn_any A n c pl wD ((HPW.out _ HBD.out).more (by have := HBD.out.size; omega)) (by omega))
          have k3 := HK6.out.cell 3
          have z3 := HK6.out.frozen 3
          have x45 := HX5.out.cell 4
          have z45 := HX5.out.frozen 4
          have k4D := HKD.out.cell 4
          have x4D := HXD.out.cell 4
          simp only [List.getElem?_cons_zero, List.getElem?_cons_succ] at k3 x45 k4D x4D
          have hlk6 := HK6.out.lt
          have hlx5 := HX5.out.lt
          have hlkD := HKD.out.lt
          have hlxD := HXD.out.lt
          have HSD := Lib.hid x4D
          have httl : 1 < ttl := by omega
          clear ho5 hb5 hv6 hv7 hbD HC1 hq5 HXX HKX HPX HQX HBX HX6 HP5 HQ5 HP6 HQ6 HP7 HQ7 HX7
          go_upto_region 22 with fail
          try rw [hw6]
          try rw [hw7]
          refine wp_region_noPanic ?_
          refine wp_region_held_drew (S := fun V => V.cell? ⟨wY.heap.size, 4, none⟩ = some (.slice A5 xn c5)) (by kernel_rfl) (by rw [hwD]; exact HSD.out) (fun hHeld => ?_)
          rw [hwD] at hHeld ⊢
          clear hwD hw6 hw7 hwX
          refine take_in (i := 0) _ (some 87) (by kernel_rfl) (by kernel_rfl) (by kernel_rfl) (by kernel_rfl) (fun _ _ _ h => h) (by rfl) (fun o ho w hSw => by cases ho; (try dsimp only at hSw); (try go_split_ands); go_simp; (try with_reducible rfl)) hHeld ?_
          try simp only [Act.put, List.setIfInBounds_toArray, List.set_cons_zero, List.set_cons_succ]
          refine take_in (i := 3) _ (some 90) (by kernel_rfl) (by kernel_rfl) (by kernel_rfl) (by kernel_rfl) (fun _ _ _ h => h) (by rfl) (fun o ho w hSw => by cases ho; (try dsimp only at hSw); (try go_split_ands); go_simp; (try with_reducible rfl)) hHeld ?_
          try simp only [Act.put, List.setIfInBounds_toArray, List.set_cons_zero, List.set_cons_succ]
          refine take_in (i := 4) _ (some 91) (by kernel_rfl) (by kernel_rfl) (by kernel_rfl) (by kernel_rfl) (fun _ _ _ h => h) (by rfl) (fun o ho w hSw => by cases ho; (try dsimp only at hSw); (try go_split_ands); go_simp; (try with_reducible rfl)) hHeld ?_
          try simp only [Act.put, List.setIfInBounds_toArray, List.set_cons_zero, List.set_cons_succ]
          refine wpAnyH_ready (rs := [1]) (by kernel_rfl) (by simp) ?_
          refine AllReadyH.cons (o := _) rfl (fun K hK => ?_) AllReadyH.nil
          go_simp
          refine hK.out _ _ hHeld (fun hHeld => ?_)
          clear hK K
          try simp only [Act.put, List.setIfInBounds_toArray, List.set_cons_zero, List.set_cons_succ]
          refine wpAnyH_ready (rs := [2]) (by kernel_rfl) (by simp) ?_
          refine AllReadyH.cons (o := _) rfl (fun K hK => ?_) AllReadyH.nil
          go_simp
          go_at_call 69
          with_reducible refine HC2.out.mono ?_
          rintro e w8 ⟨A6, c6, rfl, ho6, hb6⟩
          have hs8 := hb6.size
          have hi5 : Ints w8 w8.heap.size .i64 A5 xn c5 xl := ((ints_kp HO5.out.ints HKP5.out (Nat.le_refl _) (fun _ ad e => ⟨by have := HQ5B.out ad.block (by rw [e]; rfl); omega, by have := HQ5B.out ad.block (by rw [e]; rfl); omega⟩)).more (by omega) |>.below hb6).more hs8
          obtain ⟨v9, w9, hr9, ho9, hg9, hat9⟩ := Ints.append (P := Tryz.prog) (t := 52) (ty := 52) Tryz.underlying52 ints_info rfl ho6 hi5 (by simp only [maxLen]; omega) (by omega) (by omega)
          obtain ⟨A9, c9, rfl⟩ := own_form ho9
          have hq6 : ∀ q, (Value.slice A6 n c6).ownBlock = some q → wD.heap.size ≤ q := fun q e => (World.ownsRow.lt ho6 q e).1
          have hq9 : ∀ q, (Value.slice A9 (n + xn) c9).ownBlock = some q → wD.heap.size ≤ q ∧ q < w9.heap.size := fun q e => World.ownsRow.lt ho9 q e
          have hk9 : Keep (fun q => q < wD.heap.size) w8 w9 := Keep.grown hg9 fun q h e => by have := hq6 q e.symm; omega
          have HR := Lib.hid hr9
          have hs9 := hk9.size
          have HX9 := Lib.hid ((HXD.out.keep hb6).kp hk9 (by omega))
          have HK9 := Lib.hid ((HKD.out.keep hb6).kp hk9 (by omega))
          have HP9 := Lib.hid ((HPD.out.keep hb6).kp hk9 (by omega))
          have HQ9 := Lib.hid ((HQD.out.keep hb6).kp hk9 (by omega))
          have HB9 : Hid (Below w.heap.size w w9) := (below3 HBD.out hb6).trans (hk9.below (fun q h => by have := HBD.out.size; omega) (below3 HBD.out hb6).size)
          have HO9 := Lib.hid ho9
          have HQ9B := Lib.hid hq9
          have HKP9 : Hid (Keep (fun q => (q ≠ wY.heap.size ∧ q ≠ w.heap.size + 1) ∧ q < wD.heap.size) w5 w9) := ((HKP5.out.mono fun q _ h => h.1).trans (Keep.of hb6)).trans (hk9.mono fun q _ h => h.2)
          have HS8 : Hid (w8.cell? ⟨wY.heap.size, 4, none⟩ = some (.slice A5 xn c5)) := (HXD.out.keep hb6).cell 4
          have HS9 : Hid (w9.cell? ⟨wY.heap.size, 4, none⟩ = some (.slice A5 xn c5)) := HX9.out.cell 4
          obtain ⟨wT, hwT⟩ : ∃ wT, w9.setCell ⟨w.heap.size + 1, 4, none⟩ (.slice A9 (n + xn) c9) = wT := ⟨_, rfl⟩
          have hvT : Save (w.heap.size + 1) w9 wT := by rw [← hwT]; exact Save.set
          have HKT : Hid (Blk wT (w.heap.size + 1) 54 [.int .u32 src, .int .u32 a, .int .u32 fl, .int .i64 (ttl - 1), .slice A9 (n + xn) c9]) := by show Blk _ _ _ _; rw [← hwT]; exact HK9.out.set 4 _
          have HXT := Lib.hid (HX9.out.save hvT (by omega))
          have HPT := Lib.hid (HP9.out.save hvT (by omega))
          have HQT := Lib.hid (HQ9.out.save hvT (by omega))
          have HBT : Hid (Below w.heap.size w wT) := HB9.out.trans (hvT.below (by omega) HB9.out.size)
          have HST : Hid (wT.cell? ⟨wY.heap.size, 4, none⟩ = some (.slice A5 xn c5)) := HXT.out.cell 4
          have hsT := hvT.size
          have HOT : Hid (Ints wT wT.heap.size .i64 A9 (n + xn) c9 (pl ++ xl)) := (ints_save HO9.out.ints hvT (Nat.le_refl _) (fun _ ad e => by have := HQ9B.out ad.block (by rw [e]; rfl); omega)).more hsT
          have HIT : Hid (Ints wT wT.heap.size .i64 A5 xn c5 xl) := (ints_save (ints_kp HO5.out.ints HKP9.out (Nat.le_refl _) (fun _ ad e => by have := HQ5B.out ad.block (by rw [e]; rfl); omega)) hvT (by omega) (fun _ ad e => by have := HQ5B.out ad.block (by rw [e]; rfl); omega)).more (by omega)
          have k49 := HK9.out.cell 4
          have z49 := HK9.out.frozen 4
          simp only [List.getElem?_cons_zero, List.getElem?_cons_succ] at k49
          have hlk9 := HK9.out.lt
          clear ho6 hb6 hi5 hr9 ho9 hg9 hat9 hq6 hq9 hk9 hvT
          refine hK.out _ _ HS8.out (fun hHeld => ?_)
          clear hK K
          try simp only [Act.put, List.setIfInBounds_toArray, List.set_cons_zero, List.set_cons_succ]
          refine wpAnyH_ready (rs := [5]) (by kernel_rfl) (by simp) ?_
          refine AllReadyH.cons (o := _) rfl (fun K hK => ?_) AllReadyH.nil
          refine step_append_at (some 92) (by rfl) (by rfl) _ _ _ (by rfl) (by rfl) (by rfl) HR.out ?_
          refine hK.out _ _ HS9.out (fun hHeld => ?_)
          clear hK K
          try simp only [Act.put, List.setIfInBounds_toArray, List.set_cons_zero, List.set_cons_succ]
          refine take_in (i := 6) _ (some 93) (by kernel_rfl) (by kernel_rfl) (by kernel_rfl) (by kernel_rfl) (fun _ _ _ h => h) (by rfl) (fun o ho w hSw => by cases ho; (try dsimp only at hSw); (try go_split_ands); go_simp; (try with_reducible rfl)) hHeld ?_
          try simp only [Act.put, List.setIfInBounds_toArray, List.set_cons_zero, List.set_cons_succ]
          refine wpAnyH_ready (rs := [7]) (by kernel_rfl) (by simp) ?_
          refine AllReadyH.cons (o := _) rfl (fun K hK => ?_) AllReadyH.nil
          go_simp
          try rw [hwT]
          refine hK.out _ _ HST.out (fun hHeld => ?_)
          clear hK K
          try simp only [Act.put, List.setIfInBounds_toArray, List.set_cons_zero, List.set_cons_succ]
          refine wpAnyH_done (by kernel_rfl) ?_ _
          refine NoPanic.normal ?_
          clear hwT HS8 HS9 HST HX9 HK9 HP9 HQ9 HKP9 HO9 k49 z49 HR HC2 HSD k4D x4D
          obtain ⟨wE, hwE⟩ : ∃ wE, wT.drew = wE := ⟨_, rfl⟩
          have hbE : Below wT.heap.size wT wE := by rw [← hwE]; exact (Below.refl _ _).drew
          have hsE := hbE.size
          have HKE := Lib.hid (HKT.out.keep hbE)
          have HXE := Lib.hid (HXT.out.keep hbE)
          have HPE := Lib.hid (HPT.out.keep hbE)
          have HQE := Lib.hid (HQT.out.keep hbE)
          have HBE := Lib.hid (below3 HBT.out hbE)
          have HSE : Hid (Blk wE (w.heap.size + 1) 54 [.int .u32 src, .int .u32 a, .int .u32 fl, .int .i64 (ttl - 1), .slice A9 (n + xn) c9] ∧ Blk wE wY.heap.size 57 [.int .i64 xi, .int .u32 xa, .int .u32 xr, .int .i64 xw, .slice A5 xn c5, .int .i64 xb]) := ⟨HKE.out, HXE.out⟩
          have HEND : Hid (∀ W, Below w.heap.size w W → Keep (fun q => q ≠ w.heap.size + 1 + 1 ∧ q ≠ w.heap.size + 1 + 1 + 1) wE W → GivesOut ((⟨src, a, fl, ttl - 1, pl ++ xl⟩ : PD), PV.dat ⟨xi, xa, xr, xw, xA, xn, xc, xl, xb⟩, 0) w (.returned (.tuple #[.agg #[.int .u32 src, .int .u32 a, .int .u32 fl, .int .i64 (ttl - 1), .slice A9 (n + xn) c9], .agg #[.int .i64 xi, .int .u32 xa, .int .u32 xr, .int .i64 xw, .slice A5 xn c5, .int .i64 xb], .int .i64 0])) W) := by
            intro W hW hkW
            have hsW := hkW.size
            refine ⟨A9, n + xn, c9, A5, xn, c5, rfl, ?_, ?_, fun ad e => by have := HQ9B.out ad.block (by rw [e]; rfl); have := HBD.out.size; omega, fun ad e => by have := HQ5B.out ad.block (by rw [e]; rfl); have := HBY.out.size; omega, hW⟩
            · exact (ints_kp ((HOT.out.below hbE).more hsE) hkW (Nat.le_refl _) (fun _ ad e => by have := HQ9B.out ad.block (by rw [e]; rfl); omega)).more hsW
            · exact (ints_kp ((HIT.out.below hbE).more hsE) hkW (Nat.le_refl _) (fun _ ad e => by have := HQ5B.out ad.block (by rw [e]; rfl); omega)).more hsW
          clear hbE
          go_upto_region 23 with fail
          refine wp_region_noPanic ?_
          refine wp_region_held_drew (S := fun V => Blk V (w.heap.size + 1) 54 [.int .u32 src, .int .u32 a, .int .u32 fl, .int .i64 (ttl - 1), .slice A9 (n + xn) c9] ∧ Blk V wY.heap.size 57 [.int .i64 xi, .int .u32 xa, .int .u32 xr, .int .i64 xw, .slice A5 xn c5, .int .i64 xb]) (by kernel_rfl) (by rw [hwE]; exact HSE.out) (fun hHeld => ?_)
          rw [hwE] at hHeld ⊢
          clear hwE
          refine take_in (i := 0) _ (some 94) (by kernel_rfl) (by kernel_rfl) (by kernel_rfl) (by kernel_rfl) (fun _ _ _ h => h) (by rfl) (fun o ho w hSw => by cases ho; exact run_load_blk _ _ rfl _ rfl (hSw.1) _ Tryz.underlying54 rfl (by kernel_rfl)) hHeld ?_
          try simp only [Act.put, List.setIfInBounds_toArray, List.set_cons_zero, List.set_cons_succ]
          refine take_in (i := 1) _ (some 95) (by kernel_rfl) (by kernel_rfl) (by kernel_rfl) (by kernel_rfl) (fun _ _ _ h => h) (by rfl) (fun o ho w hSw => by cases ho; exact run_load_blk _ _ rfl _ rfl (hSw.2) _ Tryz.underlying57 rfl (by kernel_rfl)) hHeld ?_
          try simp only [Act.put, List.setIfInBounds_toArray, List.set_cons_zero, List.set_cons_succ]
          refine wpAnyH_ready (rs := [2]) (by kernel_rfl) (by simp) ?_
          refine AllReadyH.cons (o := _) rfl (fun K hK => ?_) AllReadyH.nil
          obtain ⟨HQz, HPz1, HPz2, HBz, HKz⟩ := out_facts [.int .u32 src, .int .u32 a, .int .u32 fl, .int .i64 (ttl - 1), .slice A9 (n + xn) c9] [.int .i64 xi, .int .u32 xa, .int .u32 xr, .int .i64 xw, .slice A5 xn c5, .int .i64 xb] HPE.out HQE.out HBE.out (Nat.le_refl _)
          have HSE1 := Lib.hid (two_save HSE.out (Save.row (w.heap.size + 1 + 1) wE [.int .u32 src, .int .u32 a, .int .u32 fl, .int .i64 (ttl - 1), .slice A9 (n + xn) c9].toArray) (by omega) (by omega))
          have HSE2 := Lib.hid (two_save HSE1.out (Save.row (w.heap.size + 1 + 1 + 1) (wE.setRow (w.heap.size + 1 + 1) [.int .u32 src, .int .u32 a, .int .u32 fl, .int .i64 (ttl - 1), .slice A9 (n + xn) c9].toArray) [.int .i64 xi, .int .u32 xa, .int .u32 xr, .int .i64 xw, .slice A5 xn c5, .int .i64 xb].toArray) (by omega) (by omega))
          refine step_store_blk [.int .u32 src, .int .u32 a, .int .u32 fl, .int .i64 (ttl - 1), .slice A9 (n + xn) c9] rfl rfl 54 _ _ rfl (w.heap.size + 1 + 1) rfl rfl HPE.out (by kernel_rfl) rfl (by kernel_rfl) ?_
          refine hK.out _ _ HSE1.out (fun hHeld => ?_)
          clear hK K
          try simp only [Act.put, List.setIfInBounds_toArray, List.set_cons_zero, List.set_cons_succ]
          refine wpAnyH_ready (rs := [3]) (by kernel_rfl) (by simp) ?_
          refine AllReadyH.cons (o := _) rfl (fun K hK => ?_) AllReadyH.nil
          refine step_store_blk [.int .i64 xi, .int .u32 xa, .int .u32 xr, .int .i64 xw, .slice A5 xn c5, .int .i64 xb] rfl rfl 57 _ _ rfl (w.heap.size + 1 + 1 + 1) rfl rfl HQz.out (by kernel_rfl) rfl (by kernel_rfl) ?_
          refine hK.out _ _ HSE2.out (fun hHeld => ?_)
          clear hK K
          try simp only [Act.put, List.setIfInBounds_toArray, List.set_cons_zero, List.set_cons_succ]
          refine take_in (i := 4) _ (some 8) (by kernel_rfl) (by kernel_rfl) (by kernel_rfl) (by kernel_rfl) (fun _ _ _ h => h) (by rfl) (fun o ho w hSw => by cases ho; (try dsimp only at hSw); (try go_split_ands); go_simp; (try with_reducible rfl)) hHeld ?_
          try simp only [Act.put, List.setIfInBounds_toArray, List.set_cons_zero, List.set_cons_succ]
          refine wpAnyH_done (by kernel_rfl) ?_ _
          refine NoPanic.normal ?_
          go_wp2
          refine bodyPost_ret (results_cells3 rfl _ (w.heap.size + 1 + 1) (w.heap.size + 1 + 1 + 1) _ _ rfl rfl HPz1.out HPz2.out Tryz.underlying54 rfl (by kernel_rfl) Tryz.underlying57 rfl (by kernel_rfl)) rfl ?_
          rw [HF.out]
          exact HEND.out _ HBz.out HKz.out
        obtain ⟨b, o, x, rfl, hbB, hxk, d0⟩ := (HDW.out _ hB5.out).get hlt
        have hbw : b < wr.heap.size := by have := hB5.out.size; omega
        have hx2 : ds.getD k false = x := by rw [List.getD_eq_getElem?_getD, hxk]; rfl
        cases x with
        | false =>
          have HDT2 : Hid (rs.map PV.dat = downTo act gn2 D ds (k + 1)) := by show _ = _; rw [downTo, if_neg (by rw [hx2]; simp)]; exact hDT.out
          clear hxk hx2
          go_wp2
          exact ⟨⟨k + 1, A3, c3, rs, by omega, by go_num, hK, hP, hQ, hG, hPS, HDT2, hIN, hB5⟩, by simp [intOf]; omega⟩
        | true =>
          have hev := hPS.out.even
          have HSH : Short rs := by
            intro q hq
            rw [hev q hq]
            have h1 := downTo_ls (Q := fun l => l.length ≤ 1000) (act := act) (n := gn2) (ds := ds) (by simp) HDL2.out k q.dat (by rw [← hDT.out]; exact List.mem_map_of_mem hq)
            have h2 : q.ls.length ≤ 1000 := h1
            omega
          have HFC := Lib.hid (fail_any A3 gn2 c3 act k rs wr hPS.out HSH (by omega))
          have HFE : Hid (failG act gn2 rs k = downTo act gn2 D ds (k + 1)) := by
            show _ = _
            rw [downTo, if_pos hx2, ← hDT.out, failG_dat hev]
          rw [HFE.out] at HFC
          have g0' := hG.out.cell 0
          have g1' := hG.out.cell 1
          simp only [List.getElem?_cons_zero, List.getElem?_cons_succ] at g0' g1'
          have hlg := hG.out.lt
          clear hxk hx2 HSH hev
          go_wp2_with fail
          refine HFC.out.mono ?_
          rintro e w6 ⟨A4, c4, ss, rfl, hown, hp6, hd6, hfr, hb6⟩
          have hin6 := group_in hown hfr
          obtain ⟨w7, hw7⟩ : ∃ w7, w6.setRow w2.heap.size #[.int .i64 act, .slice A4 gn2 c4] = w7 := ⟨_, rfl⟩
          have hsr : Save w2.heap.size w6 w7 := by rw [← hw7]; exact Save.row _ _ _
          have hs6 := hb6.size
          have hs7 := hsr.size
          have HG6 := Lib.hid (hG.out.keep hb6)
          have HG7 : Hid (Blk w7 w2.heap.size 47 [.int .i64 act, .slice A4 gn2 c4]) := by show Blk _ _ _ _; rw [← hw7]; exact HG6.out.row _
          have hB1s := HB1.out.size
          have HK7 := Lib.hid ((hK.out.keep hb6).save hsr (by omega))
          have HP7 := Lib.hid ((hP.out.keep hb6).save hsr (by omega))
          have HQ7 := Lib.hid ((hQ.out.keep hb6).save hsr (by omega))
          have HB7 := Lib.hid ((below3 hB5.out hb6).trans (hsr.below (by omega) (below3 hB5.out hb6).size))
          have HI7 : Hid (In (· ≠ w2.heap.size) A4 gn2 ss) := hin6.mono fun q h => by show q ≠ _; omega
          have HP8 := Lib.hid ((paths_kp hp6 (Keep.save (P := (· ≠ w2.heap.size)) hsr fun k h => h) (Nat.le_refl _) HI7.out).more hs7)
          have HD7 := Lib.hid hd6
          clear hown hp6 hd6 hfr hb6 hin6 hsr HFC g0' g1'
          go_wp2_with (refine wpList_store_blk rfl 47 _ _ rfl w2.heap.size rfl rfl HG6.out (by kernel_rfl) rfl (by kernel_rfl) ?_)
          try rw [hw7]
          go_wp2
          exact ⟨⟨k + 1, A4, c4, ss, by omega, by go_num, HK7, HP7, HQ7, HG7, HP8, HD7, HI7, HB7⟩, by simp [intOf]; omega⟩
end Go.Proofs.YtplppbgkkfjknaaGreatDoor
