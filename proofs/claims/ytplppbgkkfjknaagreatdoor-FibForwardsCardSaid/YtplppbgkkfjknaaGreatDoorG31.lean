/- The reference's Fail: the walk. The reference's Fail: the walk itself. -/
import Derived.Test.YtplppbgkkfjknaaGreatDoorG8
import Derived.Test.YtplppbgkkfjknaaGreatDoorG19
namespace Go.Proofs.YtplppbgkkfjknaaGreatDoor
open Go.RowKit
set_option maxRecDepth 100000

/-- the world in the midst of the loop of the reference's Fail -/
structure RInv (w wr : World) (A : Option Addr) (act : Int) (M n cA : Nat) (v : Value) (k : Nat) (qs : List PV) : Prop where
  b0 : wr.cell? ⟨w.heap.size, 0, none⟩ = some (.int .i64 act)
  b1 : wr.cell? ⟨w.heap.size, 1, none⟩ = some (.slice A n cA)
  r0 : wr.cell? ⟨w.heap.size + 1, 0, none⟩ = some (.int .i64 0)
  r1 : wr.cell? ⟨w.heap.size + 1, 1, none⟩ = some (.slice none 0 0)
  f0 : wr.frozen? ⟨w.heap.size + 1, 0, none⟩ = false
  f1 : wr.frozen? ⟨w.heap.size + 1, 1, none⟩ = false
  o0 : wr.cell? ⟨M, 0, none⟩ = some (.int .i64 act)
  o1 : wr.cell? ⟨M, 1, none⟩ = some v
  fo : wr.frozen? ⟨M, 1, none⟩ = false
  row : wr.ownsRow (M + 1) 57 6 v k (qs.flatMap PV.vals)
  len : qs.length = k
  labs : ∀ p ∈ qs, Ints wr wr.heap.size .i64 p.A p.ln p.lc p.ls ∧ FreshL (M + 1) p ∧ ∀ g, v.ownBlock = some g → Apart g p.A p.ln
  bel : Below w.heap.size w wr
  mg : w.heap.size + 2 ≤ M ∧ M < wr.heap.size
section
variable {w wr w' : World} {A : Option Addr} {act : Int} {M n cA k : Nat} {v : Value} {qs : List PV}
theorem RInv.lt (h : RInv w wr A act M n cA v k qs) : ∀ g, v.ownBlock = some g → M + 1 ≤ g ∧ g < wr.heap.size := fun g hg => h.row.lt g hg
theorem ownsRow_below {base e size l : Nat} {us : List Value} (h : wr.ownsRow base e size v l us) (hb : Below wr.heap.size wr w') : w'.ownsRow base e size v l us := by
  obtain ⟨h1, h2⟩ := h
  refine ⟨h1, ?_⟩
  rcases h2 with h2 | ⟨g', cap, cur, hv, hg, hh, r⟩
  · exact .inl h2
  · refine .inr ⟨g', cap, cur, hv, hg, ?_, r⟩
    rw [hb.block g' ?_]
    · exact hh
    · rcases Nat.lt_or_ge g' wr.heap.size with hl | hl
      · exact hl
      · rw [Array.getElem?_eq_none hl] at hh
        cases hh
theorem RInv.below (h : RInv w wr A act M n cA v k qs) (hb : Below wr.heap.size wr w') : RInv w w' A act M n cA v k qs := by
  have h2 := h.mg
  have k1 : ∀ b o, b < wr.heap.size → w'.cell? ⟨b, o, none⟩ = wr.cell? ⟨b, o, none⟩ := fun b o hb' => hb.cell (p := ⟨b, o, none⟩) hb'
  have kf : ∀ b o, b < wr.heap.size → w'.frozen? ⟨b, o, none⟩ = wr.frozen? ⟨b, o, none⟩ := fun b o hb' => hb.frozen (p := ⟨b, o, none⟩) hb'
  exact ⟨(k1 _ _ (by omega)).trans h.b0, (k1 _ _ (by omega)).trans h.b1, (k1 _ _ (by omega)).trans h.r0, (k1 _ _ (by omega)).trans h.r1, (kf _ _ (by omega)).trans h.f0, (kf _ _ (by omega)).trans h.f1, (k1 _ _ (by omega)).trans h.o0, (k1 _ _ (by omega)).trans h.o1, (kf _ _ (by omega)).trans h.fo,
    ownsRow_below h.row hb, h.len, fun p hp => ⟨((h.labs p hp).1.below hb).more hb.size, (h.labs p hp).2⟩, h.bel.trans (hb.mono h.bel.size), h2.1, Nat.lt_of_lt_of_le h2.2 hb.size⟩
theorem Ints.other {B B' : Nat} {i : IntKind} {A : Option Addr} {m d : Nat} {xs : List Int} (h : Ints wr B i A m d xs) (hB : B ≤ B') (hk : 0 < m → ∀ ad, A = some ad → w'.heap[ad.block]? = wr.heap[ad.block]?) : Ints w' B' i A m d xs := by
  refine ⟨h.1, h.2.1, h.2.2.1, fun hm => ?_⟩
  obtain ⟨b, o, e, hb, hc⟩ := h.2.2.2 hm
  have hh := hk hm _ e
  exact ⟨b, o, e, by omega, fun j hj => by rw [← hc j hj]; exact World.cell?_of_block (w := wr) hh⟩
/-- one path is appended -/
theorem RInv.app (h : RInv w wr A act M n cA v k qs) {W : World} (hW : Below wr.heap.size wr W) {q : PV} (hi : Ints W W.heap.size .i64 q.A q.ln q.lc q.ls) (hf : FreshL wr.heap.size q) {v' : Value} {o : Obj}
    (hrow : w'.ownsRow (M + 1) 57 6 v' (k + 1) (qs.flatMap PV.vals ++ q.vals)) (hg : (W.alloc o).grownBy w' v.ownBlock) (hv : v'.ownBlock = v.ownBlock ∨ v'.ownBlock = some (W.heap.size + 1)) :
    RInv w (w'.setCell ⟨M, 1, none⟩ v') A act M n cA v' (k + 1) (qs ++ [q]) := by
  have hl := h.lt
  have h2 := h.mg
  have hs := hW.size
  have hs2 : W.heap.size + 1 ≤ w'.heap.size := by have := hg.size; simpa using this
  have key : ∀ b, b < W.heap.size → (∀ g, v.ownBlock = some g → b ≠ g) → w'.heap[b]? = W.heap[b]? := fun b hb hne =>
    (hg.block b (by simp; omega) (fun e => hne b e.symm rfl)).trans (Below.heap_alloc W o b hb)
  have key1 : ∀ b, b < M + 1 → w'.heap[b]? = wr.heap[b]? := fun b hb => (key b (by omega) (fun g hg => by have := hl g hg; omega)).trans (hW.block b (by omega))
  have c1 : ∀ b o, b < M → (w'.setCell ⟨M, 1, none⟩ v').cell? ⟨b, o, none⟩ = wr.cell? ⟨b, o, none⟩ := fun b o hb =>
    (World.cell?_setCell_other w' _ _ _ (fun e => by injection e with e; omega)).trans (World.cell?_of_block (w := wr) (key1 b (by omega)))
  have c2 : ∀ b o, b < M + 1 → (w'.setCell ⟨M, 1, none⟩ v').frozen? ⟨b, o, none⟩ = wr.frozen? ⟨b, o, none⟩ := fun b o hb => by
    rw [show (w'.setCell ⟨M, 1, none⟩ v').frozen? ⟨b, o, none⟩ = w'.frozen? ⟨b, o, none⟩ by go_simp]
    exact World.frozen?_of_block (w := wr) (key1 b hb)
  have d1 : w'.cell? ⟨M, 1, none⟩ = some v := (World.cell?_of_block (w := wr) (key1 M (by omega))).trans h.o1
  have d0 : w'.cell? ⟨M, 0, none⟩ = some (.int .i64 act) := (World.cell?_of_block (w := wr) (key1 M (by omega))).trans h.o0
  have hsz : (w'.setCell ⟨M, 1, none⟩ v').heap.size = w'.heap.size := by simp [World.setCell]
  have hrow2 : (w'.setCell ⟨M, 1, none⟩ v').ownsRow (M + 1) 57 6 v' (k + 1) ((qs ++ [q]).flatMap PV.vals) := by
    rw [List.flatMap_append]
    simpa using ownsRow_setCell_below hrow (by show M < _; omega) v'
  refine ⟨(c1 _ _ (by omega)).trans h.b0, (c1 _ _ (by omega)).trans h.b1, (c1 _ _ (by omega)).trans h.r0, (c1 _ _ (by omega)).trans h.r1, (c2 _ _ (by omega)).trans h.f0, (c2 _ _ (by omega)).trans h.f1, by go_simp, by go_simp, (c2 _ _ (by omega)).trans h.fo,
    hrow2, by rw [List.length_append, h.len]; rfl, fun p hp => ?_, ?_, h2.1, by rw [hsz]; omega⟩
  · have hM : ∀ p : PV, FreshL (M + 1) p → Apart M p.A p.ln := fun p hp hm ad had => by
      have := hp hm ad had
      omega
    rw [hsz]
    rcases List.mem_append.1 hp with hp | hp
    · obtain ⟨i1, i2, i3⟩ := h.labs p hp
      have lt : 0 < p.ln → ∀ ad, p.A = some ad → ad.block < wr.heap.size := fun hm ad had => by
        obtain ⟨b, o, e, hb, _⟩ := i1.2.2.2 hm
        rw [e] at had
        injection had with had
        subst had
        exact hb
      refine ⟨(i1.other (w' := w') (by omega) fun hm ad had => (key _ (by have := lt hm ad had; omega) (fun g hg => i3 g hg hm ad had)).trans (hW.block _ (lt hm ad had))).setApart (hM p i2) 1 v', i2, fun g hg hm ad had => ?_⟩
      rcases hv with e | e
      · exact i3 g (by rw [← e]; exact hg) hm ad had
      · rw [e] at hg
        injection hg with hg
        have := lt hm ad had
        omega
    · obtain rfl : p = q := by simpa using hp
      have i2 : FreshL (M + 1) p := fun hm ad had => by have := hf hm ad had; omega
      have lt : 0 < p.ln → ∀ ad, p.A = some ad → ad.block < W.heap.size := fun hm ad had => by
        obtain ⟨b, o, e, hb, _⟩ := hi.2.2.2 hm
        rw [e] at had
        injection had with had
        subst had
        exact hb
      refine ⟨(hi.other (w' := w') (by omega) fun hm ad had => key _ (lt hm ad had) (fun g hg => by have := hl g hg; have := hf hm ad had; omega)).setApart (hM p i2) 1 v', i2, fun g hg hm ad had => ?_⟩
      have := hf hm ad had
      have := lt hm ad had
      rcases hv with e | e
      · rw [e] at hg
        have := hl g hg
        omega
      · rw [e] at hg
        injection hg with hg
        omega
  · have hb1 : Below w.heap.size w (W.alloc o) := (h.bel.trans (hW.mono h.bel.size)).alloc (by have := h.bel.size; omega) o
    exact (hb1.grown hg (by have := h.bel.size; simp; omega) (fun g hg => by have := hl g hg; omega)).setCell (p := ⟨M, 1, none⟩) (by show _ ≤ M; omega) v'
theorem RInv.after (h : RInv w wr A act M n cA v k qs) {W : World} (hW : Below wr.heap.size wr W) {o : Obj} (hg : (W.alloc o).grownBy w' v.ownBlock) : w'.cell? ⟨M, 1, none⟩ = some v ∧ w'.frozen? ⟨M, 1, none⟩ = false := by
  have h2 := h.mg
  have hs := hW.size
  have key : w'.heap[M]? = wr.heap[M]? := ((hg.block M (by simp; omega) (fun e => by have := h.lt M e.symm; omega)).trans (Below.heap_alloc W o M (by omega))).trans (hW.block M h2.2)
  exact ⟨(World.cell?_of_block (w := wr) key).trans h.o1, (World.frozen?_of_block (w := wr) key).trans h.fo⟩
end
/-- the call returns a group; of its own where the argument is valid -/
def GivesGF (gd : Prop) (act : Int) (n : Nat) (ds : List PV) (w : World) (e : Ending) (w' : World) : Prop :=
  ∃ A c qs, e = .returned (.agg #[.int .i64 act, .slice A n c]) ∧ Paths w' w'.heap.size A n c qs ∧ qs.map PV.dat = ds ∧ (gd → In (fun q => w.heap.size ≤ q) A n qs) ∧ Below w.heap.size w w'
theorem vals_one1 (q : PV) : ∀ u ∈ q.vals, u.oneCell' = true := fun u hu => vals_one [q] u (by simpa using hu)
theorem copy_fresh (A : Option Addr) (n c : Nat) (xs : List Int) (w : World) (hx : Ints w w.heap.size .i64 A n c xs) (hn : n ≤ 17592186044416) :
    Calls Tryz.prog 79 #[.slice A n c, .slice none 0 0] w (GivesFresh n xs w) := by
  refine (copyInts_any A none n c 0 0 xs [] w hx (Ints.nil _ _ _) (by omega)).mono ?_
  rintro e w' ⟨A2, d2, rfl, ho, hb⟩
  rw [List.append_nil] at ho
  exact ⟨A2, d2, rfl, ho.ints, fun _ ad had => (World.ownsRow.lt ho ad.block (by rw [had]; rfl)).1, hb⟩
theorem take_step {fs : List PV} {k : Nat} {qs : List PV} {q f : PV} (h : qs.map PV.dat = fs.take k) (hf : fs[k]? = some f) (hq : q.dat = f) : (qs ++ [q]).map PV.dat = fs.take (k + 1) := by
  rw [List.map_append, h, List.take_add_one, hf, ← hq]
  rfl
end Go.Proofs.YtplppbgkkfjknaaGreatDoor
namespace Go.Proofs.YtplppbgkkfjknaaGreatDoor
open Go.RowKit
set_option maxRecDepth 100000

set_option maxRecDepth 100000 in
set_option maxHeartbeats 4000000 in
theorem refFail_fr (A : Option Addr) (n cA : Nat) (act iface : Int) (ds : List PV) (w : World) (hx : GroupAt w w.heap.size A n cA ds) (hs : ShortD ds) (hn : n ≤ 1000) :
    Calls Tryz.prog 80 #[.agg #[.int .i64 act, .slice A n cA], .int .i64 iface] w (GivesGF (gErr act n ds = 0) act n (failG act n ds iface) w) := by
  have HB := Lib.hid (((Below.refl w.heap.size w).alloc (Nat.le_refl _) (.cells #[.int .i64 act, .slice A n cA] 47)).alloc (by simp) (.cells #[.int .i64 0, .slice none 0 0] 47))
  have H1 := Lib.hid (refCheck_at A n cA w.heap.size act ds _ (hx.below HB.out) HB.out.size hn)
  have HX := Lib.hid hx
  have HL := Lib.hid hx.len
  have HDD := Lib.hid hx.idem
  clear hx
  go_enter Tryz.func80, Tryz.ntmps80
  go_wp2_with fail
  refine H1.out.mono ?_
  rintro e w1 ⟨rfl, hb1⟩
  have hsz1 : w.heap.size + 2 ≤ w1.heap.size := by have := hb1.size; simpa using this
  have k : ∀ b o, b < w.heap.size + 2 → w1.cell? ⟨b, o, none⟩ = ((w.alloc (.cells #[.int .i64 act, .slice A n cA] 47)).alloc (.cells #[.int .i64 0, .slice none 0 0] 47)).cell? ⟨b, o, none⟩ := fun b o hb' => hb1.cell (p := ⟨b, o, none⟩) (by simpa using hb')
  have kf : ∀ b o, b < w.heap.size + 2 → w1.frozen? ⟨b, o, none⟩ = ((w.alloc (.cells #[.int .i64 act, .slice A n cA] 47)).alloc (.cells #[.int .i64 0, .slice none 0 0] 47)).frozen? ⟨b, o, none⟩ := fun b o hb' => hb1.frozen (p := ⟨b, o, none⟩) (by simpa using hb')
  have b0 : w1.cell? ⟨w.heap.size, 0, none⟩ = some (.int .i64 act) := (k _ _ (by omega)).trans (by go_simp)
  have b1 : w1.cell? ⟨w.heap.size, 1, none⟩ = some (.slice A n cA) := (k _ _ (by omega)).trans (by go_simp)
  have r0 : w1.cell? ⟨w.heap.size + 1, 0, none⟩ = some (.int .i64 0) := (k _ _ (by omega)).trans (by go_simp)
  have r1 : w1.cell? ⟨w.heap.size + 1, 1, none⟩ = some (.slice none 0 0) := (k _ _ (by omega)).trans (by go_simp)
  have f0 : w1.frozen? ⟨w.heap.size + 1, 0, none⟩ = false := (kf _ _ (by omega)).trans (by go_simp)
  have f1 : w1.frozen? ⟨w.heap.size + 1, 1, none⟩ = false := (kf _ _ (by omega)).trans (by go_simp)
  have HBW : Hid (Below w.heap.size w w1) := HB.out.trans (hb1.mono HB.out.size)
  clear hb1 k kf
  by_cases hg : gErr act n ds = 0
  · have G := Lib.hid (good_of hg)
    have HG : Hid (failG act n ds iface = fTo ds iface act.toNat) := by show _ = _; rw [failG, hg, HDD.out]; rfl
    rw [hg]
    obtain ⟨a, rfl⟩ := Int.eq_ofNat_of_zero_le G.out.a0
    rw [Int.toNat_natCast] at HG
    have ha : a ≤ n := by have := G.out.a1; omega
    have HI : Hid (RInv w (w1.alloc (.cells #[.int .i64 a, .slice none 0 0] 47)) A a w1.heap.size n cA (.slice none 0 0) 0 []) := by
      have hb : Below w1.heap.size w1 (w1.alloc (.cells #[.int .i64 a, .slice none 0 0] 47)) := (Below.refl _ _).alloc (Nat.le_refl _) _
      have k : ∀ b o, b < w1.heap.size → (w1.alloc (.cells #[.int .i64 a, .slice none 0 0] 47)).cell? ⟨b, o, none⟩ = w1.cell? ⟨b, o, none⟩ := fun b o hb' => hb.cell (p := ⟨b, o, none⟩) hb'
      have kf : ∀ b o, b < w1.heap.size → (w1.alloc (.cells #[.int .i64 a, .slice none 0 0] 47)).frozen? ⟨b, o, none⟩ = w1.frozen? ⟨b, o, none⟩ := fun b o hb' => hb.frozen (p := ⟨b, o, none⟩) hb'
      exact ⟨(k _ _ (by omega)).trans b0, (k _ _ (by omega)).trans b1, (k _ _ (by omega)).trans r0, (k _ _ (by omega)).trans r1, (kf _ _ (by omega)).trans f0, (kf _ _ (by omega)).trans f1, by go_simp, by go_simp, by go_simp,
        World.ownsRow_nil _ _ _ _, rfl, by simp, HBW.out.trans (hb.mono HBW.out.size), hsz1, by simp⟩
    clear hg HBW HB H1
    have hlt1 : w.heap.size < w1.heap.size := by omega
    have hlt2 : w.heap.size + 1 < w1.heap.size := by omega
    go_wp2
    go_loopw [20] (fun i wr => ∃ (k : Nat) (v : Value) (qs : List PV), k ≤ n ∧ i = .int .i64 k ∧ Hid (RInv w wr A a w1.heap.size n cA v k qs) ∧ Hid (qs.map PV.dat = (fTo ds iface a).take k)) (fun i _ => n - (intOf i).toNat)
    case atStart => exact ⟨0, _, [], Nat.zero_le _, rfl, HI, rfl⟩
    case round =>
      obtain ⟨k, v, qs, hk, rfl, hi, hd⟩ := hrel
      obtain ⟨Av, cv, hv⟩ := own_form hi.out.row
      subst hv
      clear HI b0 b1 r0 r1 f0 f1
      by_cases hlt : k < n
      · obtain ⟨bb, oo, p, D, dk, rfl, hbbB, hp, hil, c0, c1, c2, c3, c4, c5⟩ := (HX.out.below hi.out.bel).get hlt
        have HP := Lib.hid hp
        have HPD : Hid (PV.dat p = p) := by
          show _ = _
          have h2 : (ds.map PV.dat)[k]? = some p := by rw [HDD.out]; exact hp
          rw [List.getElem?_map, hp] at h2
          simpa using h2
        have hpl : p.ls.length ≤ 17592186044416 := hs p (List.mem_of_getElem? hp)
        have b1 := hi.out.b1
        have HIL := Lib.hid hil
        clear hp hil
        go_wp2_with fail
        have HB1 := Lib.hid ((Below.refl wr.heap.size wr).alloc (Nat.le_refl _) (.cells #[.int .i64 p.iface, .int .u32 p.addr, .int .u32 p.router, .int .i64 p.weight, .slice D p.ls.length dk, .int .i64 p.backup] 57))
        refine (copy_fresh D p.ls.length dk p.ls _ ((HIL.out.below (HB1.out.mono hi.out.bel.size)).more (by have := hi.out.bel.size; simp; omega)) hpl).mono ?_
        rintro e w2 ⟨A2, d2, rfl, hi2, hf2, hb2⟩
        have hbb : Below (wr.heap.size + 1) (wr.alloc (.cells #[.int .i64 p.iface, .int .u32 p.addr, .int .u32 p.router, .int .i64 p.weight, .slice D p.ls.length dk, .int .i64 p.backup] 57)) w2 := hb2.mono (by simp)
        have kk : ∀ o, w2.cell? ⟨wr.heap.size, o, none⟩ = (wr.alloc (.cells #[.int .i64 p.iface, .int .u32 p.addr, .int .u32 p.router, .int .i64 p.weight, .slice D p.ls.length dk, .int .i64 p.backup] 57)).cell? ⟨wr.heap.size, o, none⟩ := fun o => hbb.cell (p := ⟨wr.heap.size, o, none⟩) (Nat.lt_succ_self _)
        have kf : ∀ o, w2.frozen? ⟨wr.heap.size, o, none⟩ = (wr.alloc (.cells #[.int .i64 p.iface, .int .u32 p.addr, .int .u32 p.router, .int .i64 p.weight, .slice D p.ls.length dk, .int .i64 p.backup] 57)).frozen? ⟨wr.heap.size, o, none⟩ := fun o => hbb.frozen (p := ⟨wr.heap.size, o, none⟩) (Nat.lt_succ_self _)
        have u0 : w2.cell? ⟨wr.heap.size, 0, none⟩ = some (.int .i64 p.iface) := (kk 0).trans (by go_simp)
        have u1 : w2.cell? ⟨wr.heap.size, 1, none⟩ = some (.int .u32 p.addr) := (kk 1).trans (by go_simp)
        have u2 : w2.cell? ⟨wr.heap.size, 2, none⟩ = some (.int .u32 p.router) := (kk 2).trans (by go_simp)
        have u3 : w2.cell? ⟨wr.heap.size, 3, none⟩ = some (.int .i64 p.weight) := (kk 3).trans (by go_simp)
        have u4 : w2.cell? ⟨wr.heap.size, 4, none⟩ = some (.slice D p.ls.length dk) := (kk 4).trans (by go_simp)
        have u5 : w2.cell? ⟨wr.heap.size, 5, none⟩ = some (.int .i64 p.backup) := (kk 5).trans (by go_simp)
        have g0 : w2.frozen? ⟨wr.heap.size, 0, none⟩ = false := (kf 0).trans (by go_simp)
        have g1 : w2.frozen? ⟨wr.heap.size, 1, none⟩ = false := (kf 1).trans (by go_simp)
        have g2 : w2.frozen? ⟨wr.heap.size, 2, none⟩ = false := (kf 2).trans (by go_simp)
        have g3 : w2.frozen? ⟨wr.heap.size, 3, none⟩ = false := (kf 3).trans (by go_simp)
        have g4 : w2.frozen? ⟨wr.heap.size, 4, none⟩ = false := (kf 4).trans (by go_simp)
        have g5 : w2.frozen? ⟨wr.heap.size, 5, none⟩ = false := (kf 5).trans (by go_simp)
        have hw2s : wr.heap.size + 1 ≤ w2.heap.size := by have := hb2.size; simpa using this
        have HB2 : Hid (Below wr.heap.size wr w2) := HB1.out.trans (hb2.mono (by simp))
        have HF2 : Hid (0 < p.ls.length → ∀ ad, A2 = some ad → wr.heap.size + 1 ≤ ad.block) := fun hm ad had => by have := hf2 hm ad had; simpa using this
        have hap : Apart wr.heap.size A2 p.ls.length := fun hm ad had => by have := HF2.out hm ad had; omega
        have b0 := (hi.out.below HB2.out).b0
        have b1 := (hi.out.below HB2.out).b1
        have o1 := (hi.out.below HB2.out).o1
        have hmg := hi.out.mg
        have hws := HB2.out.size
        have hm2 : w1.heap.size < wr.heap.size := hmg.2
        have hw2 : w.heap.size < wr.heap.size := by omega
        have hb3 : bb < wr.heap.size := by omega
        have HI2 := Lib.hid hi2
        have hw22 : w.heap.size + 2 ≤ wr.heap.size := by omega
        clear kk kf hbb hb2 hf2 c0 c1 c2 c3 c4 c5 hmg
        by_cases hak : a ≤ k
        · have HFK : Hid ((fTo ds iface a)[k]? = some p) := by show _ = _; rw [fTo_ge ds iface hak]; exact HP.out
          clear hi2
          have HW : Hid (Below wr.heap.size wr (w2.setCell ⟨wr.heap.size, 4, none⟩ (.slice A2 p.ls.length d2))) := HB2.out.setCell (p := ⟨wr.heap.size, 4, none⟩) (Nat.le_refl _) _
          have HQ : Hid (Ints (w2.setCell ⟨wr.heap.size, 4, none⟩ (.slice A2 p.ls.length d2)) (w2.setCell ⟨wr.heap.size, 4, none⟩ (.slice A2 p.ls.length d2)).heap.size .i64 ({ p with A := A2, ln := p.ls.length, lc := d2 }).A ({ p with A := A2, ln := p.ls.length, lc := d2 }).ln ({ p with A := A2, ln := p.ls.length, lc := d2 }).lc ({ p with A := A2, ln := p.ls.length, lc := d2 }).ls) := (HI2.out.setApart hap 4 _).more (by simp [World.setCell])
          have HQF : Hid (FreshL wr.heap.size ({ p with A := A2, ln := p.ls.length, lc := d2 })) := fun hm ad had => by have := HF2.out hm ad had; omega
          have HD2 : Hid ((qs ++ [{ p with A := A2, ln := p.ls.length, lc := d2 }]).map PV.dat = (fTo ds iface a).take (k + 1)) := take_step hd.out HFK.out (by exact HPD.out)
          clear HFK hd
          go_wp2_with (at_builtin; refine wpList_append_new rfl _ _ rfl rfl rfl (by simp [World.setCell]) Tryz.underlying45 path_info rfl (by omega) (hi.out.below HW.out).row (Below.refl 0 _) (Nat.zero_le _) (hi.out.below HW.out).mg.2 rfl (vals_one1 ({ p with A := A2, ln := p.ls.length, lc := d2 })) (by simp only [maxLen]; omega) (by omega) ?_; intro v' w' h1 _ h3 h4; obtain ⟨A5, k5, rfl⟩ := own_form h1; have ha1 := (hi.out.after HW.out h3).1; have ha2 := (hi.out.after HW.out h3).2; have HN := Lib.hid (hi.out.app HW.out (q := { p with A := A2, ln := p.ls.length, lc := d2 }) HQ.out HQF.out h1 h3 h4); clear h1 h3 h4)
          go_roundw
          case rel => exact ⟨k + 1, _, _, by omega, by go_num, HN, HD2⟩
          case measure => simp [intOf]; omega
        · have hka : k < a := by omega
          have HFK : Hid ((fTo ds iface a)[k]? = some (failP ds iface p)) := by show _ = _; rw [fTo_lt ds iface hka (by have := HL.out; omega), getD_of HP.out]
          clear hi2 hak
          by_cases hb0 : p.backup = -1
          · have db : decide (0 ≤ p.backup) = false := by simp; omega
            by_cases hif : p.iface = iface
            · have HFP : Hid (failP ds iface p = { p with weight := 0, backup := -1 }) := failP_zero (by omega) hif
              have de : (p.iface == iface) = true := by simp [hif]
              have dd : (p.iface != iface) = false := by simp [hif]
              clear hif hb0
              have HW : Hid (Below wr.heap.size wr (((w2.setCell ⟨wr.heap.size, 4, none⟩ (.slice A2 p.ls.length d2)).setCell ⟨wr.heap.size, 3, none⟩ (.int .i64 0)).setCell ⟨wr.heap.size, 5, none⟩ (.int .i64 (-1)))) := ((HB2.out.setCell (p := ⟨wr.heap.size, 4, none⟩) (Nat.le_refl _) _).setCell (p := ⟨wr.heap.size, 3, none⟩) (Nat.le_refl _) _).setCell (p := ⟨wr.heap.size, 5, none⟩) (Nat.le_refl _) _
              have HQ : Hid (Ints (((w2.setCell ⟨wr.heap.size, 4, none⟩ (.slice A2 p.ls.length d2)).setCell ⟨wr.heap.size, 3, none⟩ (.int .i64 0)).setCell ⟨wr.heap.size, 5, none⟩ (.int .i64 (-1))) (((w2.setCell ⟨wr.heap.size, 4, none⟩ (.slice A2 p.ls.length d2)).setCell ⟨wr.heap.size, 3, none⟩ (.int .i64 0)).setCell ⟨wr.heap.size, 5, none⟩ (.int .i64 (-1))).heap.size .i64 ({ p with A := A2, ln := p.ls.length, lc := d2, weight := 0, backup := -1 }).A ({ p with A := A2, ln := p.ls.length, lc := d2, weight := 0, backup := -1 }).ln ({ p with A := A2, ln := p.ls.length, lc := d2, weight := 0, backup := -1 }).lc ({ p with A := A2, ln := p.ls.length, lc := d2, weight := 0, backup := -1 }).ls) := (((HI2.out.setApart hap 4 _).setApart hap 3 _).setApart hap 5 _).more (by simp [World.setCell])
              have HQF : Hid (FreshL wr.heap.size ({ p with A := A2, ln := p.ls.length, lc := d2, weight := 0, backup := -1 })) := fun hm ad had => by have := HF2.out hm ad had; omega
              have HD2 : Hid ((qs ++ [{ p with A := A2, ln := p.ls.length, lc := d2, weight := 0, backup := -1 }]).map PV.dat = (fTo ds iface a).take (k + 1)) := take_step hd.out HFK.out (by rw [HFP.out, ← HPD.out]; rfl)
              clear HFK hd
              go_wp2_with (at_builtin; refine wpList_append_new rfl _ _ rfl rfl rfl (by simp [World.setCell]) Tryz.underlying45 path_info rfl (by omega) (hi.out.below HW.out).row (Below.refl 0 _) (Nat.zero_le _) (hi.out.below HW.out).mg.2 rfl (vals_one1 ({ p with A := A2, ln := p.ls.length, lc := d2, weight := 0, backup := -1 })) (by simp only [maxLen]; omega) (by omega) ?_; intro v' w' h1 _ h3 h4; obtain ⟨A5, k5, rfl⟩ := own_form h1; have ha1 := (hi.out.after HW.out h3).1; have ha2 := (hi.out.after HW.out h3).2; have HN := Lib.hid (hi.out.app HW.out (q := { p with A := A2, ln := p.ls.length, lc := d2, weight := 0, backup := -1 }) HQ.out HQF.out h1 h3 h4); clear h1 h3 h4)
              go_roundw
              case rel => exact ⟨k + 1, _, _, by omega, by go_num, HN, HD2⟩
              case measure => simp [intOf]; omega
            · have HFP : Hid (failP ds iface p = { p with backup := -1 }) := failP_drop (by omega) hif
              have de : (p.iface == iface) = false := by simp [hif]
              have dd : (p.iface != iface) = true := by simp [hif]
              clear hif hb0
              have HW : Hid (Below wr.heap.size wr ((w2.setCell ⟨wr.heap.size, 4, none⟩ (.slice A2 p.ls.length d2)).setCell ⟨wr.heap.size, 5, none⟩ (.int .i64 (-1)))) := (HB2.out.setCell (p := ⟨wr.heap.size, 4, none⟩) (Nat.le_refl _) _).setCell (p := ⟨wr.heap.size, 5, none⟩) (Nat.le_refl _) _
              have HQ : Hid (Ints ((w2.setCell ⟨wr.heap.size, 4, none⟩ (.slice A2 p.ls.length d2)).setCell ⟨wr.heap.size, 5, none⟩ (.int .i64 (-1))) ((w2.setCell ⟨wr.heap.size, 4, none⟩ (.slice A2 p.ls.length d2)).setCell ⟨wr.heap.size, 5, none⟩ (.int .i64 (-1))).heap.size .i64 ({ p with A := A2, ln := p.ls.length, lc := d2, backup := -1 }).A ({ p with A := A2, ln := p.ls.length, lc := d2, backup := -1 }).ln ({ p with A := A2, ln := p.ls.length, lc := d2, backup := -1 }).lc ({ p with A := A2, ln := p.ls.length, lc := d2, backup := -1 }).ls) := ((HI2.out.setApart hap 4 _).setApart hap 5 _).more (by simp [World.setCell])
              have HQF : Hid (FreshL wr.heap.size ({ p with A := A2, ln := p.ls.length, lc := d2, backup := -1 })) := fun hm ad had => by have := HF2.out hm ad had; omega
              have HD2 : Hid ((qs ++ [{ p with A := A2, ln := p.ls.length, lc := d2, backup := -1 }]).map PV.dat = (fTo ds iface a).take (k + 1)) := take_step hd.out HFK.out (by rw [HFP.out, ← HPD.out]; rfl)
              clear HFK hd
              go_wp2_with (at_builtin; refine wpList_append_new rfl _ _ rfl rfl rfl (by simp [World.setCell]) Tryz.underlying45 path_info rfl (by omega) (hi.out.below HW.out).row (Below.refl 0 _) (Nat.zero_le _) (hi.out.below HW.out).mg.2 rfl (vals_one1 ({ p with A := A2, ln := p.ls.length, lc := d2, backup := -1 })) (by simp only [maxLen]; omega) (by omega) ?_; intro v' w' h1 _ h3 h4; obtain ⟨A5, k5, rfl⟩ := own_form h1; have ha1 := (hi.out.after HW.out h3).1; have ha2 := (hi.out.after HW.out h3).2; have HN := Lib.hid (hi.out.app HW.out (q := { p with A := A2, ln := p.ls.length, lc := d2, backup := -1 }) HQ.out HQF.out h1 h3 h4); clear h1 h3 h4)
              go_roundw
              case rel => exact ⟨k + 1, _, _, by omega, by go_num, HN, HD2⟩
              case measure => simp [intOf]; omega
          · have hz := (pErr_zero (G.out.each k p (by omega) HP.out)).2.2.2
            obtain ⟨b, hbk⟩ := Int.eq_ofNat_of_zero_le (show 0 ≤ p.backup by omega)
            rw [hbk] at u5 hz
            have hbn : b < n := by omega
            obtain ⟨_, _, pb, D2, dk2, he, _, hpb, hil2, c0, c1, c2, c3, c4, c5⟩ := (HX.out.below (hi.out.below HB2.out).bel).get hbn
            cases he
            have HBK : Hid (bk ds p = pb) := by
              show _ = _
              rw [bk, hbk, Int.toNat_natCast]
              exact getD_of hpb
            have HBP := Lib.hid hbk
            have HIL2 := Lib.hid hil2
            have HPB := Lib.hid hpb
            have db : decide ((0 : Int) ≤ (b : Int)) = true := by simp
            clear hz hbk hil2 hpb hb0
            by_cases hq : pb.iface = iface
            · have dq : (pb.iface != iface) = false := by simp [hq]
              have HNK : Hid (¬ (0 ≤ p.backup ∧ (bk ds p).iface ≠ iface)) := fun h => h.2 (by rw [HBK.out]; exact hq)
              clear hq
              by_cases hif : p.iface = iface
              · have HFP : Hid (failP ds iface p = { p with weight := 0, backup := -1 }) := failP_zero HNK.out hif
                have de : (p.iface == iface) = true := by simp [hif]
                have dd : (p.iface != iface) = false := by simp [hif]
                clear hif
                have HW : Hid (Below wr.heap.size wr (((w2.setCell ⟨wr.heap.size, 4, none⟩ (.slice A2 p.ls.length d2)).setCell ⟨wr.heap.size, 3, none⟩ (.int .i64 0)).setCell ⟨wr.heap.size, 5, none⟩ (.int .i64 (-1)))) := ((HB2.out.setCell (p := ⟨wr.heap.size, 4, none⟩) (Nat.le_refl _) _).setCell (p := ⟨wr.heap.size, 3, none⟩) (Nat.le_refl _) _).setCell (p := ⟨wr.heap.size, 5, none⟩) (Nat.le_refl _) _
                have HQ : Hid (Ints (((w2.setCell ⟨wr.heap.size, 4, none⟩ (.slice A2 p.ls.length d2)).setCell ⟨wr.heap.size, 3, none⟩ (.int .i64 0)).setCell ⟨wr.heap.size, 5, none⟩ (.int .i64 (-1))) (((w2.setCell ⟨wr.heap.size, 4, none⟩ (.slice A2 p.ls.length d2)).setCell ⟨wr.heap.size, 3, none⟩ (.int .i64 0)).setCell ⟨wr.heap.size, 5, none⟩ (.int .i64 (-1))).heap.size .i64 ({ p with A := A2, ln := p.ls.length, lc := d2, weight := 0, backup := -1 }).A ({ p with A := A2, ln := p.ls.length, lc := d2, weight := 0, backup := -1 }).ln ({ p with A := A2, ln := p.ls.length, lc := d2, weight := 0, backup := -1 }).lc ({ p with A := A2, ln := p.ls.length, lc := d2, weight := 0, backup := -1 }).ls) := (((HI2.out.setApart hap 4 _).setApart hap 3 _).setApart hap 5 _).more (by simp [World.setCell])
                have HQF : Hid (FreshL wr.heap.size ({ p with A := A2, ln := p.ls.length, lc := d2, weight := 0, backup := -1 })) := fun hm ad had => by have := HF2.out hm ad had; omega
                have HD2 : Hid ((qs ++ [{ p with A := A2, ln := p.ls.length, lc := d2, weight := 0, backup := -1 }]).map PV.dat = (fTo ds iface a).take (k + 1)) := take_step hd.out HFK.out (by rw [HFP.out, ← HPD.out]; rfl)
                clear HFK hd
                go_wp2_with (at_builtin; refine wpList_append_new rfl _ _ rfl rfl rfl (by simp [World.setCell]) Tryz.underlying45 path_info rfl (by omega) (hi.out.below HW.out).row (Below.refl 0 _) (Nat.zero_le _) (hi.out.below HW.out).mg.2 rfl (vals_one1 ({ p with A := A2, ln := p.ls.length, lc := d2, weight := 0, backup := -1 })) (by simp only [maxLen]; omega) (by omega) ?_; intro v' w' h1 _ h3 h4; obtain ⟨A5, k5, rfl⟩ := own_form h1; have ha1 := (hi.out.after HW.out h3).1; have ha2 := (hi.out.after HW.out h3).2; have HN := Lib.hid (hi.out.app HW.out (q := { p with A := A2, ln := p.ls.length, lc := d2, weight := 0, backup := -1 }) HQ.out HQF.out h1 h3 h4); clear h1 h3 h4)
                go_roundw
                case rel => exact ⟨k + 1, _, _, by omega, by go_num, HN, HD2⟩
                case measure => simp [intOf]; omega
              · have HFP : Hid (failP ds iface p = { p with backup := -1 }) := failP_drop HNK.out hif
                have de : (p.iface == iface) = false := by simp [hif]
                have dd : (p.iface != iface) = true := by simp [hif]
                clear hif
                have HW : Hid (Below wr.heap.size wr ((w2.setCell ⟨wr.heap.size, 4, none⟩ (.slice A2 p.ls.length d2)).setCell ⟨wr.heap.size, 5, none⟩ (.int .i64 (-1)))) := (HB2.out.setCell (p := ⟨wr.heap.size, 4, none⟩) (Nat.le_refl _) _).setCell (p := ⟨wr.heap.size, 5, none⟩) (Nat.le_refl _) _
                have HQ : Hid (Ints ((w2.setCell ⟨wr.heap.size, 4, none⟩ (.slice A2 p.ls.length d2)).setCell ⟨wr.heap.size, 5, none⟩ (.int .i64 (-1))) ((w2.setCell ⟨wr.heap.size, 4, none⟩ (.slice A2 p.ls.length d2)).setCell ⟨wr.heap.size, 5, none⟩ (.int .i64 (-1))).heap.size .i64 ({ p with A := A2, ln := p.ls.length, lc := d2, backup := -1 }).A ({ p with A := A2, ln := p.ls.length, lc := d2, backup := -1 }).ln ({ p with A := A2, ln := p.ls.length, lc := d2, backup := -1 }).lc ({ p with A := A2, ln := p.ls.length, lc := d2, backup := -1 }).ls) := ((HI2.out.setApart hap 4 _).setApart hap 5 _).more (by simp [World.setCell])
                have HQF : Hid (FreshL wr.heap.size ({ p with A := A2, ln := p.ls.length, lc := d2, backup := -1 })) := fun hm ad had => by have := HF2.out hm ad had; omega
                have HD2 : Hid ((qs ++ [{ p with A := A2, ln := p.ls.length, lc := d2, backup := -1 }]).map PV.dat = (fTo ds iface a).take (k + 1)) := take_step hd.out HFK.out (by rw [HFP.out, ← HPD.out]; rfl)
                clear HFK hd
                go_wp2_with (at_builtin; refine wpList_append_new rfl _ _ rfl rfl rfl (by simp [World.setCell]) Tryz.underlying45 path_info rfl (by omega) (hi.out.below HW.out).row (Below.refl 0 _) (Nat.zero_le _) (hi.out.below HW.out).mg.2 rfl (vals_one1 ({ p with A := A2, ln := p.ls.length, lc := d2, backup := -1 })) (by simp only [maxLen]; omega) (by omega) ?_; intro v' w' h1 _ h3 h4; obtain ⟨A5, k5, rfl⟩ := own_form h1; have ha1 := (hi.out.after HW.out h3).1; have ha2 := (hi.out.after HW.out h3).2; have HN := Lib.hid (hi.out.app HW.out (q := { p with A := A2, ln := p.ls.length, lc := d2, backup := -1 }) HQ.out HQF.out h1 h3 h4); clear h1 h3 h4)
                go_roundw
                case rel => exact ⟨k + 1, _, _, by omega, by go_num, HN, HD2⟩
                case measure => simp [intOf]; omega
            · have dq : (pb.iface != iface) = true := by simp [hq]
              have HK : Hid (0 ≤ p.backup ∧ (bk ds p).iface ≠ iface) := ⟨by rw [HBP.out]; omega, by rw [HBK.out]; exact hq⟩
              clear hq
              by_cases hif : p.iface = iface
              · have HFP : Hid (failP ds iface p = { pb with weight := p.weight, backup := -1 }) := by show _ = _; rw [failP_move HK.out.1 HK.out.2 hif, HBK.out]
                have de : (p.iface == iface) = true := by simp [hif]
                have dd : (p.iface != iface) = false := by simp [hif]
                clear hif
                go_wp2_with fail
                have hpbm := HPB.out
                have hpbl : pb.ls.length ≤ 17592186044416 := hs pb (List.mem_of_getElem? hpbm)
                have HPBD : Hid (PV.dat pb = pb) := by
                  show _ = _
                  have h2 : (ds.map PV.dat)[b]? = some pb := by rw [HDD.out]; exact hpbm
                  rw [List.getElem?_map, hpbm] at h2
                  simpa using h2
                have HB6 : Hid (Below wr.heap.size wr (((((((w2.setCell ⟨wr.heap.size, 4, none⟩ (.slice A2 p.ls.length d2)).setCell ⟨wr.heap.size, 0, none⟩ (.int .i64 pb.iface)).setCell ⟨wr.heap.size, 1, none⟩ (.int .u32 pb.addr)).setCell ⟨wr.heap.size, 2, none⟩ (.int .u32 pb.router)).setCell ⟨wr.heap.size, 3, none⟩ (.int .i64 pb.weight)).setCell ⟨wr.heap.size, 4, none⟩ (.slice D2 pb.ls.length dk2)).setCell ⟨wr.heap.size, 5, none⟩ (.int .i64 pb.backup))) := (((((((HB2.out).setCell (p := ⟨wr.heap.size, 4, none⟩) (Nat.le_refl _) _).setCell (p := ⟨wr.heap.size, 0, none⟩) (Nat.le_refl _) _).setCell (p := ⟨wr.heap.size, 1, none⟩) (Nat.le_refl _) _).setCell (p := ⟨wr.heap.size, 2, none⟩) (Nat.le_refl _) _).setCell (p := ⟨wr.heap.size, 3, none⟩) (Nat.le_refl _) _).setCell (p := ⟨wr.heap.size, 4, none⟩) (Nat.le_refl _) _).setCell (p := ⟨wr.heap.size, 5, none⟩) (Nat.le_refl _) _
                have HB26 : Hid (Below w.heap.size w2 (((((((w2.setCell ⟨wr.heap.size, 4, none⟩ (.slice A2 p.ls.length d2)).setCell ⟨wr.heap.size, 0, none⟩ (.int .i64 pb.iface)).setCell ⟨wr.heap.size, 1, none⟩ (.int .u32 pb.addr)).setCell ⟨wr.heap.size, 2, none⟩ (.int .u32 pb.router)).setCell ⟨wr.heap.size, 3, none⟩ (.int .i64 pb.weight)).setCell ⟨wr.heap.size, 4, none⟩ (.slice D2 pb.ls.length dk2)).setCell ⟨wr.heap.size, 5, none⟩ (.int .i64 pb.backup))) := (((((((Below.refl w.heap.size w2).setCell (p := ⟨wr.heap.size, 4, none⟩) (by show _ ≤ wr.heap.size; omega) _).setCell (p := ⟨wr.heap.size, 0, none⟩) (by show _ ≤ wr.heap.size; omega) _).setCell (p := ⟨wr.heap.size, 1, none⟩) (by show _ ≤ wr.heap.size; omega) _).setCell (p := ⟨wr.heap.size, 2, none⟩) (by show _ ≤ wr.heap.size; omega) _).setCell (p := ⟨wr.heap.size, 3, none⟩) (by show _ ≤ wr.heap.size; omega) _).setCell (p := ⟨wr.heap.size, 4, none⟩) (by show _ ≤ wr.heap.size; omega) _).setCell (p := ⟨wr.heap.size, 5, none⟩) (by show _ ≤ wr.heap.size; omega) _
                have hs6 : Hid (w2.heap.size ≤ (((((((w2.setCell ⟨wr.heap.size, 4, none⟩ (.slice A2 p.ls.length d2)).setCell ⟨wr.heap.size, 0, none⟩ (.int .i64 pb.iface)).setCell ⟨wr.heap.size, 1, none⟩ (.int .u32 pb.addr)).setCell ⟨wr.heap.size, 2, none⟩ (.int .u32 pb.router)).setCell ⟨wr.heap.size, 3, none⟩ (.int .i64 pb.weight)).setCell ⟨wr.heap.size, 4, none⟩ (.slice D2 pb.ls.length dk2)).setCell ⟨wr.heap.size, 5, none⟩ (.int .i64 pb.backup)).heap.size) := HB26.out.size
                clear hpbm
                refine (copy_fresh D2 pb.ls.length dk2 pb.ls _ ((HIL2.out.below HB26.out).more (by have := hs6.out; omega)) hpbl).mono ?_
                rintro e w3 ⟨A3, d3, rfl, hi3, hf3, hb3w⟩
                have kk : ∀ o, w3.cell? ⟨wr.heap.size, o, none⟩ = (((((((w2.setCell ⟨wr.heap.size, 4, none⟩ (.slice A2 p.ls.length d2)).setCell ⟨wr.heap.size, 0, none⟩ (.int .i64 pb.iface)).setCell ⟨wr.heap.size, 1, none⟩ (.int .u32 pb.addr)).setCell ⟨wr.heap.size, 2, none⟩ (.int .u32 pb.router)).setCell ⟨wr.heap.size, 3, none⟩ (.int .i64 pb.weight)).setCell ⟨wr.heap.size, 4, none⟩ (.slice D2 pb.ls.length dk2)).setCell ⟨wr.heap.size, 5, none⟩ (.int .i64 pb.backup)).cell? ⟨wr.heap.size, o, none⟩ := fun o => hb3w.cell (p := ⟨wr.heap.size, o, none⟩) (by show wr.heap.size < _; have := hs6.out; omega)
                have kf : ∀ o, w3.frozen? ⟨wr.heap.size, o, none⟩ = (((((((w2.setCell ⟨wr.heap.size, 4, none⟩ (.slice A2 p.ls.length d2)).setCell ⟨wr.heap.size, 0, none⟩ (.int .i64 pb.iface)).setCell ⟨wr.heap.size, 1, none⟩ (.int .u32 pb.addr)).setCell ⟨wr.heap.size, 2, none⟩ (.int .u32 pb.router)).setCell ⟨wr.heap.size, 3, none⟩ (.int .i64 pb.weight)).setCell ⟨wr.heap.size, 4, none⟩ (.slice D2 pb.ls.length dk2)).setCell ⟨wr.heap.size, 5, none⟩ (.int .i64 pb.backup)).frozen? ⟨wr.heap.size, o, none⟩ := fun o => hb3w.frozen (p := ⟨wr.heap.size, o, none⟩) (by show wr.heap.size < _; have := hs6.out; omega)
                have x0 : w3.cell? ⟨wr.heap.size, 0, none⟩ = some (.int .i64 pb.iface) := (kk 0).trans (by go_simp)
                have x1 : w3.cell? ⟨wr.heap.size, 1, none⟩ = some (.int .u32 pb.addr) := (kk 1).trans (by go_simp)
                have x2 : w3.cell? ⟨wr.heap.size, 2, none⟩ = some (.int .u32 pb.router) := (kk 2).trans (by go_simp)
                have x3 : w3.cell? ⟨wr.heap.size, 3, none⟩ = some (.int .i64 pb.weight) := (kk 3).trans (by go_simp)
                have x4 : w3.cell? ⟨wr.heap.size, 4, none⟩ = some (.slice D2 pb.ls.length dk2) := (kk 4).trans (by go_simp)
                have x5 : w3.cell? ⟨wr.heap.size, 5, none⟩ = some (.int .i64 pb.backup) := (kk 5).trans (by go_simp)
                have y3 : w3.frozen? ⟨wr.heap.size, 3, none⟩ = false := (kf 3).trans (by go_simp)
                have y4 : w3.frozen? ⟨wr.heap.size, 4, none⟩ = false := (kf 4).trans (by go_simp)
                have y5 : w3.frozen? ⟨wr.heap.size, 5, none⟩ = false := (kf 5).trans (by go_simp)
                have HB3 : Hid (Below wr.heap.size wr w3) := HB6.out.trans (hb3w.mono HB6.out.size)
                have HF3 : Hid (0 < pb.ls.length → ∀ ad, A3 = some ad → wr.heap.size + 1 ≤ ad.block) := fun hm ad had => by have := hf3 hm ad had; have := hs6.out; omega
                have hap3 : Apart wr.heap.size A3 pb.ls.length := fun hm ad had => by have := HF3.out hm ad had; omega
                have ob0 := (hi.out.below HB3.out).b0
                have ob1 := (hi.out.below HB3.out).b1
                have oo1 := (hi.out.below HB3.out).o1
                have HI3 := Lib.hid hi3
                have HW : Hid (Below wr.heap.size wr (((w3.setCell ⟨wr.heap.size, 4, none⟩ (.slice A3 pb.ls.length d3)).setCell ⟨wr.heap.size, 3, none⟩ (.int .i64 p.weight)).setCell ⟨wr.heap.size, 5, none⟩ (.int .i64 (-1)))) := (((HB3.out).setCell (p := ⟨wr.heap.size, 4, none⟩) (Nat.le_refl _) _).setCell (p := ⟨wr.heap.size, 3, none⟩) (Nat.le_refl _) _).setCell (p := ⟨wr.heap.size, 5, none⟩) (Nat.le_refl _) _
                have HQ : Hid (Ints (((w3.setCell ⟨wr.heap.size, 4, none⟩ (.slice A3 pb.ls.length d3)).setCell ⟨wr.heap.size, 3, none⟩ (.int .i64 p.weight)).setCell ⟨wr.heap.size, 5, none⟩ (.int .i64 (-1))) (((w3.setCell ⟨wr.heap.size, 4, none⟩ (.slice A3 pb.ls.length d3)).setCell ⟨wr.heap.size, 3, none⟩ (.int .i64 p.weight)).setCell ⟨wr.heap.size, 5, none⟩ (.int .i64 (-1))).heap.size .i64 ({ pb with A := A3, ln := pb.ls.length, lc := d3, weight := p.weight, backup := -1 }).A ({ pb with A := A3, ln := pb.ls.length, lc := d3, weight := p.weight, backup := -1 }).ln ({ pb with A := A3, ln := pb.ls.length, lc := d3, weight := p.weight, backup := -1 }).lc ({ pb with A := A3, ln := pb.ls.length, lc := d3, weight := p.weight, backup := -1 }).ls) := (((HI3.out.setApart hap3 4 _).setApart hap3 3 _).setApart hap3 5 _).more (by simp [World.setCell])
                have HQF : Hid (FreshL wr.heap.size ({ pb with A := A3, ln := pb.ls.length, lc := d3, weight := p.weight, backup := -1 })) := fun hm ad had => by have := HF3.out hm ad had; omega
                have HD2 : Hid ((qs ++ [{ pb with A := A3, ln := pb.ls.length, lc := d3, weight := p.weight, backup := -1 }]).map PV.dat = (fTo ds iface a).take (k + 1)) := take_step hd.out HFK.out (by rw [HFP.out, ← HPBD.out]; rfl)
                clear HFK hd hi3 hf3 hb3w kk kf HB6 HB26 hs6 b0 b1 o1 u0 u1 u2 u3 u4 u5 g0 g1 g2 g3 g4 g5 c0 c1 c2 c3 c4 c5 HB1 HB2 HI2 HF2 hap
                go_wp2_with (at_builtin; refine wpList_append_new rfl _ _ rfl rfl rfl (by simp [World.setCell]) Tryz.underlying45 path_info rfl (by omega) (hi.out.below HW.out).row (Below.refl 0 _) (Nat.zero_le _) (hi.out.below HW.out).mg.2 rfl (vals_one1 ({ pb with A := A3, ln := pb.ls.length, lc := d3, weight := p.weight, backup := -1 })) (by simp only [maxLen]; omega) (by omega) ?_; intro v' w' h1 _ h3 h4; obtain ⟨A5, k5, rfl⟩ := own_form h1; have ha1 := (hi.out.after HW.out h3).1; have ha2 := (hi.out.after HW.out h3).2; have HN := Lib.hid (hi.out.app HW.out (q := { pb with A := A3, ln := pb.ls.length, lc := d3, weight := p.weight, backup := -1 }) HQ.out HQF.out h1 h3 h4); clear h1 h3 h4)
                go_roundw
                case rel => exact ⟨k + 1, _, _, by omega, by go_num, HN, HD2⟩
                case measure => simp [intOf]; omega
              · have HFP : Hid (failP ds iface p = p) := failP_keep HK.out.1 HK.out.2 hif
                have de : (p.iface == iface) = false := by simp [hif]
                have dd : (p.iface != iface) = true := by simp [hif]
                clear hif
                have HW : Hid (Below wr.heap.size wr (w2.setCell ⟨wr.heap.size, 4, none⟩ (.slice A2 p.ls.length d2))) := HB2.out.setCell (p := ⟨wr.heap.size, 4, none⟩) (Nat.le_refl _) _
                have HQ : Hid (Ints (w2.setCell ⟨wr.heap.size, 4, none⟩ (.slice A2 p.ls.length d2)) (w2.setCell ⟨wr.heap.size, 4, none⟩ (.slice A2 p.ls.length d2)).heap.size .i64 ({ p with A := A2, ln := p.ls.length, lc := d2, backup := (b : Int) }).A ({ p with A := A2, ln := p.ls.length, lc := d2, backup := (b : Int) }).ln ({ p with A := A2, ln := p.ls.length, lc := d2, backup := (b : Int) }).lc ({ p with A := A2, ln := p.ls.length, lc := d2, backup := (b : Int) }).ls) := (HI2.out.setApart hap 4 _).more (by simp [World.setCell])
                have HQF : Hid (FreshL wr.heap.size ({ p with A := A2, ln := p.ls.length, lc := d2, backup := (b : Int) })) := fun hm ad had => by have := HF2.out hm ad had; omega
                have HD2 : Hid ((qs ++ [{ p with A := A2, ln := p.ls.length, lc := d2, backup := (b : Int) }]).map PV.dat = (fTo ds iface a).take (k + 1)) := take_step hd.out HFK.out (by rw [HFP.out, ← HBP.out]; exact HPD.out)
                clear HFK hd
                go_wp2_with (at_builtin; refine wpList_append_new rfl _ _ rfl rfl rfl (by simp [World.setCell]) Tryz.underlying45 path_info rfl (by omega) (hi.out.below HW.out).row (Below.refl 0 _) (Nat.zero_le _) (hi.out.below HW.out).mg.2 rfl (vals_one1 ({ p with A := A2, ln := p.ls.length, lc := d2, backup := (b : Int) })) (by simp only [maxLen]; omega) (by omega) ?_; intro v' w' h1 _ h3 h4; obtain ⟨A5, k5, rfl⟩ := own_form h1; have ha1 := (hi.out.after HW.out h3).1; have ha2 := (hi.out.after HW.out h3).2; have HN := Lib.hid (hi.out.app HW.out (q := { p with A := A2, ln := p.ls.length, lc := d2, backup := (b : Int) }) HQ.out HQF.out h1 h3 h4); clear h1 h3 h4)
                go_roundw
                case rel => exact ⟨k + 1, _, _, by omega, by go_num, HN, HD2⟩
                case measure => simp [intOf]; omega
      · obtain rfl : k = n := by omega
        have o0 := hi.out.o0
        have o1 := hi.out.o1
        have r0 := hi.out.r0
        have r1 := hi.out.r1
        have f0 := hi.out.f0
        have f1 := hi.out.f1
        go_wp2
        refine bodyPost_ret (v := .agg #[.int .i64 a, .slice Av k cv]) (by simp [results, Tryz.results80, go_sem, r0, r1]) rfl ?_
        rw [HG.out]
        have hws := hi.out.bel.size
        have hmg := hi.out.mg
        have hbw : Below w.heap.size w ((wr.setCell ⟨w.heap.size + 1, 0, none⟩ (.int .i64 a)).setCell ⟨w.heap.size + 1, 1, none⟩ (.slice Av k cv)) :=
          (hi.out.bel.setCell (p := ⟨w.heap.size + 1, 0, none⟩) (Nat.le_succ _) _).setCell (p := ⟨w.heap.size + 1, 1, none⟩) (Nat.le_succ _) _
        have hrw := ownsRow_setCell_below (ownsRow_setCell_below hi.out.row (a := ⟨w.heap.size + 1, 0, none⟩) (by show w.heap.size + 1 < _; omega) (.int .i64 a)) (a := ⟨w.heap.size + 1, 1, none⟩) (by show w.heap.size + 1 < _; omega) (.slice Av k cv)
        refine ⟨Av, cv, qs, rfl, ⟨⟨Cells.of_own hrw, hi.out.len⟩, fun p hp => ?_⟩, ?_, fun _ => ⟨fun _ ad e => by have := (World.ownsRow.lt hrw ad.block (by rw [e]; rfl)).1; omega, fun p hp hm ad e => by have := (hi.out.labs p hp).2.1 hm ad e; omega⟩, hbw⟩
        · obtain ⟨i1, i2, _⟩ := hi.out.labs p hp
          have hap : Apart (w.heap.size + 1) p.A p.ln := fun hm ad had => by have := i2 hm ad had; omega
          exact ((i1.setApart hap 0 _).setApart hap 1 _).more (by simp [World.setCell])
        · rw [hd.out, List.take_of_length_le (by rw [fTo_len, HL.out]; exact Nat.le_refl _)]
  · have d : (gErr act n ds != 0) = true := by simp [hg]
    have HG : Hid (failG act n ds iface = ds) := by show _ = _; rw [failG, if_pos hg]; exact HDD.out
    have HNG := Lib.hid hg
    obtain ⟨e, he⟩ : ∃ e, gErr act n ds = e := ⟨_, rfl⟩
    rw [he] at d ⊢
    clear hg he
    go_wp2
    refine bodyPost_ret (v := .agg #[.int .i64 act, .slice A n cA]) (by simp [results, Tryz.results80, go_sem, r0, r1]) rfl ?_
    rw [HG.out]
    have hb2 : Below w.heap.size w ((w1.setCell ⟨w.heap.size + 1, 0, none⟩ (.int .i64 act)).setCell ⟨w.heap.size + 1, 1, none⟩ (.slice A n cA)) :=
      (HBW.out.setCell (p := ⟨w.heap.size + 1, 0, none⟩) (Nat.le_succ _) _).setCell (p := ⟨w.heap.size + 1, 1, none⟩) (Nat.le_succ _) _
    obtain ⟨qs, hq1, hq2⟩ := HX.out.grow hb2 hb2.size
    exact ⟨A, cA, qs, rfl, hq1, hq2, fun h => by first | exact absurd h HNG.out | (rw [h] at d; simp at d), hb2⟩
theorem refFail_at (A : Option Addr) (n cA : Nat) (act iface : Int) (ds : List PV) (w : World) (hx : GroupAt w w.heap.size A n cA ds) (hs : ShortD ds) (hn : n ≤ 1000) :
    Calls Tryz.prog 80 #[.agg #[.int .i64 act, .slice A n cA], .int .i64 iface] w (GivesG act n (failG act n ds iface) w) := by
  refine (refFail_fr A n cA act iface ds w hx hs hn).mono ?_
  rintro e w' ⟨A', c', qs, he, h1, h2, _, hb⟩
  exact ⟨A', c', he, ⟨qs, h1, h2⟩, hb⟩
end Go.Proofs.YtplppbgkkfjknaaGreatDoor
