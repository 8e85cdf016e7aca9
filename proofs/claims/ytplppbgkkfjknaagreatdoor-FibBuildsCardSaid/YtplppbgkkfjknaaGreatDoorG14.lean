/- Few. Routes, hops, backups, outgoing labels in memory; slices.IndexFunc over them. -/
import Derived.Test.YtplppbgkkfjknaaGreatDoorG13
namespace Go.Proofs.YtplppbgkkfjknaaGreatDoor
open Go.RowKit

set_option linter.unusedVariables false
set_option linter.unusedSimpArgs false
def smallG (g : GE) : Prop := g.n ≤ 80 ∧ ∀ p ∈ g.ps, p.ln ≤ 40
structure FewP (tn gn ln bn nn : Nat) (gs : List GE) (bs : List EV) : Prop where
  t : tn ≤ 60
  g : gn ≤ 60
  l : ln ≤ 60
  b : bn ≤ 60
  n : nn ≤ 60
  gs : ∀ g ∈ gs, smallG g
  bs : ∀ e ∈ bs, e.n ≤ 80
def FewI (w : World) (n : Nat) (P : Nat → Prop) (fv : List Value) (iv : Value) (W : World) : Prop :=
  ∃ k : Nat, k ≤ n ∧ iv = .int .i64 k ∧ Hid (∀ j, j < k → P j) ∧ Hid (Blk W w.heap.size 35 fv) ∧ Hid (Below w.heap.size w W)
def GivesFew (P : Prop) (w : World) (e : Ending) (w' : World) : Prop := ∃ b : Bool, e = .returned (.bool b) ∧ (b = true → P) ∧ Below w.heap.size w w'
theorem all_at {α : Type} {P : α → Prop} {l : List α} {n : Nat} (hl : l.length = n) (h : ∀ j, j < n → ∀ x, l[j]? = some x → P x) : ∀ x ∈ l, P x := by
  intro x hx
  obtain ⟨j, hj, hjx⟩ := List.getElem_of_mem hx
  exact h j (by omega) x (by rw [List.getElem?_eq_getElem hj, hjx])
set_option maxRecDepth 100000 in
set_option maxHeartbeats 8000000 in
theorem few_any (tA gA lA bA nA : Option Addr) (tn tc gn gc ln lc bn bc nn nc : Nat) (B : Nat) (es : List Ent) (gs : List GE) (ls : List Int) (bs : List EV) (ns : List NH) (w : World) (hg : Grps w B gA gn gc gs) (hb : Tab w B bA bn bc bs) (hB : B ≤ w.heap.size) :
    Calls Tryz.prog 13 #[.agg #[.slice tA tn tc, .slice gA gn gc, .slice lA ln lc, .slice bA bn bc, .slice nA nn nc]] w (GivesFew (FewP tn gn ln bn nn gs bs) w) := by
  obtain ⟨w1, hw1⟩ : ∃ w1, w.alloc (.cells #[.slice tA tn tc, .slice gA gn gc, .slice lA ln lc, .slice bA bn bc, .slice nA nn nc] 35) = w1 := ⟨_, rfl⟩
  have HF1 : Hid (Blk w1 w.heap.size 35 [.slice tA tn tc, .slice gA gn gc, .slice lA ln lc, .slice bA bn bc, .slice nA nn nc]) := by show Blk _ _ _ _; rw [← hw1]; exact Blk.new w _ _
  have HB1 : Hid (Below w.heap.size w w1) := by show Below _ _ _; rw [← hw1]; exact belowA _ _
  have hlt1 : w.heap.size < w1.heap.size := HF1.out.lt
  have f0 := HF1.out.cell 0
  have f1 := HF1.out.cell 1
  have f2 := HF1.out.cell 2
  have f3 := HF1.out.cell 3
  have f4 := HF1.out.cell 4
  simp only [List.getElem?_cons_zero, List.getElem?_cons_succ] at f0 f1 f2 f3 f4
  have HGW : Hid (∀ W, Below w.heap.size w W → Grps W B gA gn gc gs) := fun W h => hg.below (h.mono hB)
  have HTW : Hid (∀ W, Below w.heap.size w W → Tab W B bA bn bc bs) := fun W h => hb.below (h.mono hB)
  have HGL := Lib.hid hg.1.2
  have HTL := Lib.hid hb.1.2
  clear hg hb
  by_cases q1 : 60 < tn
  · go_enter Tryz.func13, Tryz.ntmps13
    go_wp2
    go_ret
    exact ⟨false, rfl, fun h => absurd h (by simp), HB1.out⟩
  by_cases q2 : 60 < gn
  · go_enter Tryz.func13, Tryz.ntmps13
    go_wp2
    go_ret
    exact ⟨false, rfl, fun h => absurd h (by simp), HB1.out⟩
  by_cases q3 : 60 < ln
  · go_enter Tryz.func13, Tryz.ntmps13
    go_wp2
    go_ret
    exact ⟨false, rfl, fun h => absurd h (by simp), HB1.out⟩
  by_cases q4 : 60 < bn
  · go_enter Tryz.func13, Tryz.ntmps13
    go_wp2
    go_ret
    exact ⟨false, rfl, fun h => absurd h (by simp), HB1.out⟩
  by_cases q5 : 60 < nn
  · go_enter Tryz.func13, Tryz.ntmps13
    go_wp2
    go_ret
    exact ⟨false, rfl, fun h => absurd h (by simp), HB1.out⟩
  have HI0 : Hid (FewI w gn (fun j => ∀ x, gs[j]? = some x → smallG x) [.slice tA tn tc, .slice gA gn gc, .slice lA ln lc, .slice bA bn bc, .slice nA nn nc] (.int .i64 (0 : Nat)) w1) := ⟨0, Nat.zero_le _, rfl, Lib.hid (fun j h => absurd h (by omega)), HF1, HB1⟩
  go_enter Tryz.func13, Tryz.ntmps13
  go_wp2
  go_loopw [37] (fun iv wr => FewI w gn (fun j => ∀ x, gs[j]? = some x → smallG x) [.slice tA tn tc, .slice gA gn gc, .slice lA ln lc, .slice bA bn bc, .slice nA nn nc] iv wr) (fun iv _ => gn - (intOf iv).toNat)
  case atStart => exact HI0.out
  case round =>
    obtain ⟨k, hk, rfl, h0, hF, hB3⟩ := hrel
    clear HI0 f0 f1 f2 f3 f4 hw1 HF1 HB1 hlt1
    have f1 := hF.out.cell 1
    have f3 := hF.out.cell 3
    simp only [List.getElem?_cons_zero, List.getElem?_cons_succ] at f1 f3
    have hNw := hF.out.lt
    by_cases hlt : k < gn
    case pos =>
      obtain ⟨b, o, x, rfl, hbB, hxk, hxp, c0, c1⟩ := (HGW.out _ hB3.out).get hlt
      have hbw : b < wr.heap.size := by have := hB3.out.size; omega
      obtain ⟨xc, xA, xn, xcap, xps⟩ := x
      dsimp only at hxp c0 c1
      have HK := Lib.hid hxk
      have HP := Lib.hid hxp
      have hPL := hxp.1.2
      clear hxk hxp
      by_cases h80 : 80 < xn
      · go_wp2
        go_ret
        exact ⟨false, rfl, fun h => absurd h (by simp), hB3.out⟩
      have hI1 : FewI w xn (fun j => ∀ p, xps[j]? = some p → p.ln ≤ 40) [.slice tA tn tc, .slice (some ⟨b, o, none⟩) gn gc, .slice lA ln lc, .slice bA bn bc, .slice nA nn nc] (.int .i64 (0 : Nat)) wr := ⟨0, Nat.zero_le _, rfl, Lib.hid (fun j h => absurd h (by omega)), hF, hB3⟩
      have HI1 := Lib.hid hI1
      obtain ⟨w2, rfl⟩ : ∃ w2, w2 = wr := ⟨_, rfl⟩
      clear hI1
      go_wp2
      go_loopw [55] (fun iv wr => wr = w2 ∧ FewI w xn (fun j => ∀ p, xps[j]? = some p → p.ln ≤ 40) [.slice tA tn tc, .slice (some ⟨b, o, none⟩) gn gc, .slice lA ln lc, .slice bA bn bc, .slice nA nn nc] iv wr) (fun iv _ => xn - (intOf iv).toNat)
      case atStart => exact ⟨rfl, HI1.out⟩
      case round =>
        obtain ⟨rfl, i, hi, rfl, h1, _, _⟩ := hrel
        clear HI1
        by_cases hl2 : i < xn
        case pos =>
          obtain ⟨b2, o2, p, rfl, hb2, hpi, _, _, _, _, _, c4, _⟩ := HP.out.get hl2
          have hb2w : b2 < wr.heap.size := by have := hB3.out.size; omega
          have HPI := Lib.hid hpi
          clear hpi
          by_cases h40 : 40 < p.ln
          · go_wp2
            go_ret
            exact ⟨false, rfl, fun h => absurd h (by simp), hB3.out⟩
          have HN : Hid (∀ j, j < i + 1 → ∀ q, xps[j]? = some q → q.ln ≤ 40) := by
            intro j hj q hq
            rcases Nat.lt_or_ge j i with h | h
            · exact h1.out j h q hq
            · obtain rfl : j = i := by omega
              rw [HPI.out] at hq
              obtain rfl := Option.some.inj hq
              omega
          go_wp2
          go_roundw
          case rel => exact ⟨trivial, i + 1, by omega, by go_num, HN, hF, hB3⟩
          case measure => simp [intOf]; omega
        case neg =>
          have HN : Hid (∀ j, j < k + 1 → ∀ x, gs[j]? = some x → smallG x) := by
            intro j hj x hx
            rcases Nat.lt_or_ge j k with h | h
            · exact h0.out j h x hx
            · obtain rfl : j = k := by omega
              rw [HK.out] at hx
              obtain rfl := Option.some.inj hx
              refine ⟨by show xn ≤ 80; omega, all_at (n := xn) hPL fun q hq y hy => h1.out q (by omega) y hy⟩
          go_wp2
          go_roundw
          case rel => exact ⟨k + 1, by omega, by go_num, HN, hF, hB3⟩
          case measure => simp [intOf]; omega
    case neg =>
      have HG2 : Hid (∀ g ∈ gs, smallG g) := all_at HGL.out fun j hj x hx => h0.out j (by omega) x hx
      have HI2 : Hid (FewI w bn (fun j => ∀ x, bs[j]? = some x → x.n ≤ 80) [.slice tA tn tc, .slice gA gn gc, .slice lA ln lc, .slice bA bn bc, .slice nA nn nc] (.int .i64 (0 : Nat)) wr) := ⟨0, Nat.zero_le _, rfl, Lib.hid (fun j h => absurd h (by omega)), hF, hB3⟩
      obtain ⟨w2, rfl⟩ : ∃ w2, w2 = wr := ⟨_, rfl⟩
      clear h0 hk
      go_wp2
      go_loopw [75] (fun iv wr => wr = w2 ∧ FewI w bn (fun j => ∀ x, bs[j]? = some x → x.n ≤ 80) [.slice tA tn tc, .slice gA gn gc, .slice lA ln lc, .slice bA bn bc, .slice nA nn nc] iv wr) (fun iv _ => bn - (intOf iv).toNat)
      case atStart => exact ⟨rfl, HI2.out⟩
      case round =>
        obtain ⟨rfl, i, hi, rfl, h1, _, _⟩ := hrel
        clear HI2
        by_cases hl2 : i < bn
        case pos =>
          obtain ⟨b2, o2, p, rfl, hb2, hpi, _, c0, c1⟩ := (HTW.out _ hB3.out).get hl2
          have hb2w : b2 < wr.heap.size := by have := hB3.out.size; omega
          have HPI := Lib.hid hpi
          clear hpi
          by_cases h80 : 80 < p.n
          · go_wp2
            go_ret
            exact ⟨false, rfl, fun h => absurd h (by simp), hB3.out⟩
          have HN : Hid (∀ j, j < i + 1 → ∀ q, bs[j]? = some q → q.n ≤ 80) := by
            intro j hj q hq
            rcases Nat.lt_or_ge j i with h | h
            · exact h1.out j h q hq
            · obtain rfl : j = i := by omega
              rw [HPI.out] at hq
              obtain rfl := Option.some.inj hq
              omega
          go_wp2
          go_roundw
          case rel => exact ⟨trivial, i + 1, by omega, by go_num, HN, hF, hB3⟩
          case measure => simp [intOf]; omega
        case neg =>
          have HB2 : Hid (∀ e ∈ bs, e.n ≤ 80) := all_at HTL.out fun j hj x hx => h1.out j (by omega) x hx
          go_wp2
          go_ret
          exact ⟨true, rfl, fun _ => ⟨by omega, by omega, by omega, by omega, by omega, HG2.out, HB2.out⟩, hB3.out⟩
end Go.Proofs.YtplppbgkkfjknaaGreatDoor
namespace Go.Proofs.YtplppbgkkfjknaaGreatDoor
open Go.RowKit

set_option linter.unusedVariables false
set_option linter.unusedSimpArgs false
/-- a next hop -/
structure XH where
  addr : Int
  iface : Int
  router : Int
  weight : Int
  va : Nat
  vl : Int
def XH.vals (h : XH) : List Value := [.int .u32 h.addr, .int .i64 h.iface, .int .u32 h.router, .int .i64 h.weight, .int .u32 h.va, .int .i64 h.vl]
theorem XH.vals_len (h : XH) : h.vals.length = 6 := rfl
def XHops (w : World) (B : Nat) (A : Option Addr) (n c : Nat) (hs : List XH) : Prop := Recs w B 6 A n c XH.vals hs
/-- a route -/
structure RT where
  a : Nat
  l : Int
  proto : Int
  dist : Int
  met : Int
  tag : Int
  A : Option Addr
  n : Nat
  c : Nat
  hs : List XH
def RT.vals (r : RT) : List Value := [.int .u32 r.a, .int .i64 r.l, .int .i64 r.proto, .int .i64 r.dist, .int .i64 r.met, .int .i64 r.tag, .slice r.A r.n r.c]
theorem RT.vals_len (h : RT) : h.vals.length = 7 := rfl
def Rts (w : World) (B : Nat) (A : Option Addr) (n c : Nat) (rs : List RT) : Prop := Recs w B 7 A n c RT.vals rs ∧ ∀ r ∈ rs, r.a < 4294967296 ∧ r.n ≤ 140737488355328 ∧ XHops w B r.A r.n r.c r.hs
theorem Rts.below {w w' : World} {B n c : Nat} {A : Option Addr} {rs : List RT} (h : Rts w B A n c rs) (hb : Below B w w') : Rts w' B A n c rs := ⟨h.1.below hb, fun r hr => ⟨(h.2 r hr).1, (h.2 r hr).2.1, Recs.below (h.2 r hr).2.2 hb⟩⟩
theorem Rts.get {w : World} {B n c : Nat} {A : Option Addr} {rs : List RT} (h : Rts w B A n c rs) {j : Nat} (hj : j < n) :
    ∃ b o r, A = some ⟨b, o, none⟩ ∧ b < B ∧ rs[j]? = some r ∧ (r.a < 4294967296 ∧ r.n ≤ 140737488355328 ∧ XHops w B r.A r.n r.c r.hs) ∧ w.cell? ⟨b, o + j * 7, none⟩ = some (.int .u32 r.a) ∧ w.cell? ⟨b, o + j * 7 + 1, none⟩ = some (.int .i64 r.l) ∧ w.cell? ⟨b, o + j * 7 + 2, none⟩ = some (.int .i64 r.proto) ∧ w.cell? ⟨b, o + j * 7 + 3, none⟩ = some (.int .i64 r.dist) ∧ w.cell? ⟨b, o + j * 7 + 4, none⟩ = some (.int .i64 r.met) ∧ w.cell? ⟨b, o + j * 7 + 5, none⟩ = some (.int .i64 r.tag) ∧ w.cell? ⟨b, o + j * 7 + 6, none⟩ = some (.slice r.A r.n r.c) := by
  obtain ⟨b, o, r, hA, hb, he, hc⟩ := h.1.get RT.vals_len hj
  exact ⟨b, o, r, hA, hb, he, h.2 r (List.mem_of_getElem? he), hc 0 (by omega), hc 1 (by omega), hc 2 (by omega), hc 3 (by omega), hc 4 (by omega), hc 5 (by omega), hc 6 (by omega)⟩
/-- the outgoing labels of a prefix -/
structure LO where
  a : Nat
  l : Int
  A : Option Addr
  n : Nat
  c : Nat
  hs : List HV
def LO.vals (r : LO) : List Value := [.int .u32 r.a, .int .i64 r.l, .slice r.A r.n r.c]
theorem LO.vals_len (h : LO) : h.vals.length = 3 := rfl
/-- a backup -/
structure BK where
  a : Nat
  l : Int
  prim : Int
  p : PV
def BK.vals (r : BK) : List Value := [.int .u32 r.a, .int .i64 r.l, .int .u32 r.prim, .int .i64 r.p.iface, .int .u32 r.p.addr, .int .u32 r.p.router, .int .i64 r.p.weight, .slice r.p.A r.p.ln r.p.lc, .int .i64 r.p.backup]
theorem BK.vals_len (h : BK) : h.vals.length = 9 := rfl
theorem XH.get {w : World} {B n c : Nat} {A : Option Addr} {l : List XH} (h : Recs w B 6 A n c XH.vals l) {j : Nat} (hj : j < n) :
    ∃ b o x, A = some ⟨b, o, none⟩ ∧ b < B ∧ l[j]? = some x ∧ w.cell? ⟨b, o + j * 6, none⟩ = some (.int .u32 x.addr) ∧ w.cell? ⟨b, o + j * 6 + 1, none⟩ = some (.int .i64 x.iface) ∧ w.cell? ⟨b, o + j * 6 + 2, none⟩ = some (.int .u32 x.router) ∧ w.cell? ⟨b, o + j * 6 + 3, none⟩ = some (.int .i64 x.weight) ∧ w.cell? ⟨b, o + j * 6 + 4, none⟩ = some (.int .u32 x.va) ∧ w.cell? ⟨b, o + j * 6 + 5, none⟩ = some (.int .i64 x.vl) := by
  obtain ⟨b, o, x, hA, hb, he, hc⟩ := Recs.get XH.vals_len h hj
  exact ⟨b, o, x, hA, hb, he, hc 0 (by omega), hc 1 (by omega), hc 2 (by omega), hc 3 (by omega), hc 4 (by omega), hc 5 (by omega)⟩
theorem LO.get {w : World} {B n c : Nat} {A : Option Addr} {l : List LO} (h : Recs w B 3 A n c LO.vals l) {j : Nat} (hj : j < n) :
    ∃ b o x, A = some ⟨b, o, none⟩ ∧ b < B ∧ l[j]? = some x ∧ w.cell? ⟨b, o + j * 3, none⟩ = some (.int .u32 x.a) ∧ w.cell? ⟨b, o + j * 3 + 1, none⟩ = some (.int .i64 x.l) ∧ w.cell? ⟨b, o + j * 3 + 2, none⟩ = some (.slice x.A x.n x.c) := by
  obtain ⟨b, o, x, hA, hb, he, hc⟩ := Recs.get LO.vals_len h hj
  exact ⟨b, o, x, hA, hb, he, hc 0 (by omega), hc 1 (by omega), hc 2 (by omega)⟩
theorem BK.get {w : World} {B n c : Nat} {A : Option Addr} {l : List BK} (h : Recs w B 9 A n c BK.vals l) {j : Nat} (hj : j < n) :
    ∃ b o x, A = some ⟨b, o, none⟩ ∧ b < B ∧ l[j]? = some x ∧ w.cell? ⟨b, o + j * 9, none⟩ = some (.int .u32 x.a) ∧ w.cell? ⟨b, o + j * 9 + 1, none⟩ = some (.int .i64 x.l) ∧ w.cell? ⟨b, o + j * 9 + 2, none⟩ = some (.int .u32 x.prim) ∧ w.cell? ⟨b, o + j * 9 + 3, none⟩ = some (.int .i64 x.p.iface) ∧ w.cell? ⟨b, o + j * 9 + 4, none⟩ = some (.int .u32 x.p.addr) ∧ w.cell? ⟨b, o + j * 9 + 5, none⟩ = some (.int .u32 x.p.router) ∧ w.cell? ⟨b, o + j * 9 + 6, none⟩ = some (.int .i64 x.p.weight) ∧ w.cell? ⟨b, o + j * 9 + 7, none⟩ = some (.slice x.p.A x.p.ln x.p.lc) ∧ w.cell? ⟨b, o + j * 9 + 8, none⟩ = some (.int .i64 x.p.backup) := by
  obtain ⟨b, o, x, hA, hb, he, hc⟩ := Recs.get BK.vals_len h hj
  exact ⟨b, o, x, hA, hb, he, hc 0 (by omega), hc 1 (by omega), hc 2 (by omega), hc 3 (by omega), hc 4 (by omega), hc 5 (by omega), hc 6 (by omega), hc 7 (by omega), hc 8 (by omega)⟩
/-- the first place where P holds, or -1 -/
def idxQ {α : Type} (P : α → Bool) : List α → Int
  | [] => -1
  | x :: r => if P x = true then 0 else if idxQ P r < 0 then -1 else idxQ P r + 1
theorem idxQ_none {α : Type} {P : α → Bool} : ∀ {l : List α}, (∀ (j : Nat) (t : α), j < l.length → l[j]? = some t → P t = false) → idxQ P l = -1
  | [], _ => rfl
  | s :: r, h => by
    have h0 := h 0 s (by simp) rfl
    rw [idxQ, if_neg (by rw [h0]; simp), idxQ_none (fun j t hj ht => h (j + 1) t (by simpa using hj) (by simpa using ht))]
    simp
theorem idxQ_at {α : Type} {P : α → Bool} : ∀ {l : List α} {k : Nat} {s : α}, l[k]? = some s → P s = true → (∀ (j : Nat) (t : α), j < k → l[j]? = some t → P t = false) → idxQ P l = (k : Int)
  | [], _, _, h, _, _ => by simp at h
  | x :: r, 0, s, h, hs, _ => by
    simp only [List.getElem?_cons_zero, Option.some.injEq] at h
    subst h
    rw [idxQ, if_pos hs]; rfl
  | x :: r, k + 1, s, h, hs, hn => by
    have h0 := hn 0 x (by omega) rfl
    have hi := idxQ_at (l := r) (k := k) (by simpa using h) hs (fun j t hj ht => hn (j + 1) t (by omega) (by simpa using ht))
    rw [idxQ, if_neg (by rw [h0]; simp), hi, if_neg (by omega)]
    omega
set_option maxHeartbeats 2000000 in
theorem idxHop_any (P : XH → Bool) (q : Nat) (A : Option Addr) (n c B : Nat) (p : List XH) (w : World) (hx : Recs w B 6 A n c XH.vals p) (hB : B ≤ w.heap.size) (hn : n ≤ 140737488355328)
    (hcl : ∀ x W, Below w.heap.size w W → Calls Tryz.prog 87 #[.agg #[.int .u32 x.addr, .int .i64 x.iface, .int .u32 x.router, .int .i64 x.weight, .int .u32 x.va, .int .i64 x.vl]] W fun e w' => e = .returned (.bool (P x)) ∧ Below W.heap.size W w') :
    Calls Tryz.prog 113 #[.slice A n c, .func (.func 87) #[] #[]] w fun e w' => e = .returned (.int .i64 (idxQ P p)) ∧ Below w.heap.size w w' := by
  have HX := Lib.hid hx
  have HL : Hid (p.length = n) := hx.2
  have HCL := Lib.hid hcl
  clear hx hcl
  go_enter Tryz.func113, Tryz.ntmps113
  go_wp2
  go_loopw [8] (fun i wr => ∃ k : Nat, k ≤ n ∧ i = .int .i64 k ∧ Hid (∀ (j : Nat) (t : XH), j < k → p[j]? = some t → P t = false) ∧ Hid (Below w.heap.size w wr)) (fun i _ => n - (intOf i).toNat)
  case atStart => exact ⟨0, Nat.zero_le _, rfl, fun j t hj => absurd hj (by omega), Below.refl _ _⟩
  case round =>
    obtain ⟨k, hk, rfl, hno, hbw⟩ := hrel
    by_cases hlt : k < n
    case neg =>
      obtain rfl : k = n := by omega
      have HR : Hid (idxQ P p = -1) := idxQ_none fun j t hj ht => hno.out j t (by rw [← HL.out]; exact hj) ht
      go_wp2
      go_ret
      exact ⟨by rw [HR.out]; rfl, hbw.out⟩
    obtain ⟨b, o, g, rfl, hbB, hg, c0, c1, c2, c3, c4, c5⟩ := XH.get (HX.out.below (hbw.out.mono hB)) hlt
    have hbwr : b < wr.heap.size := by have := hbw.out.size; omega
    have HC := Lib.hid (HCL.out g wr hbw.out)
    have HG := Lib.hid hg
    clear hg
    obtain ⟨g0, g1, g2, g3, g4, g5⟩ := g
    dsimp only at HC
    go_wp2_with fail
    refine HC.out.mono ?_
    rintro e w2 ⟨rfl, hb2⟩
    have HB2 := Lib.hid (below3 hbw.out hb2)
    clear hb2 HC
    cases hy : P ⟨g0, g1, g2, g3, g4, g5⟩
    case true =>
      have HR : Hid (idxQ P p = (k : Int)) := idxQ_at HG.out hy hno.out
      clear hy
      go_wp2
      go_ret
      exact ⟨by rw [HR.out]; rfl, HB2.out⟩
    case false =>
      have HN : Hid (∀ (j : Nat) (t : XH), j < k + 1 → p[j]? = some t → P t = false) := by
        intro j t hj ht
        rcases Nat.lt_or_ge j k with h | h
        · exact hno.out j t h ht
        · obtain rfl : j = k := by omega
          rw [HG.out] at ht
          obtain rfl := Option.some.inj ht
          exact hy
      clear hy
      go_wp2
      go_roundw
      case rel => exact ⟨k + 1, by omega, by go_num, HN, HB2⟩
      case measure => simp [intOf]; omega
set_option maxHeartbeats 2000000 in
theorem idxOut_any (P : LO → Bool) (q : Nat) (A : Option Addr) (n c B : Nat) (p : List LO) (w : World) (hx : Recs w B 3 A n c LO.vals p) (hB : B ≤ w.heap.size) (hn : n ≤ 140737488355328)
    (hcl : ∀ x W, Below w.heap.size w W → Calls Tryz.prog 116 #[.agg #[.int .u32 x.a, .int .i64 x.l, .slice x.A x.n x.c], .pointer (some ⟨q, 0, none⟩)] W fun e w' => e = .returned (.bool (P x)) ∧ Below W.heap.size W w') :
    Calls Tryz.prog 115 #[.slice A n c, .func (.func 116) #[] #[.pointer (some ⟨q, 0, none⟩)]] w fun e w' => e = .returned (.int .i64 (idxQ P p)) ∧ Below w.heap.size w w' := by
  have HX := Lib.hid hx
  have HL : Hid (p.length = n) := hx.2
  have HCL := Lib.hid hcl
  clear hx hcl
  go_enter Tryz.func115, Tryz.ntmps115
  go_wp2
  go_loopw [8] (fun i wr => ∃ k : Nat, k ≤ n ∧ i = .int .i64 k ∧ Hid (∀ (j : Nat) (t : LO), j < k → p[j]? = some t → P t = false) ∧ Hid (Below w.heap.size w wr)) (fun i _ => n - (intOf i).toNat)
  case atStart => exact ⟨0, Nat.zero_le _, rfl, fun j t hj => absurd hj (by omega), Below.refl _ _⟩
  case round =>
    obtain ⟨k, hk, rfl, hno, hbw⟩ := hrel
    by_cases hlt : k < n
    case neg =>
      obtain rfl : k = n := by omega
      have HR : Hid (idxQ P p = -1) := idxQ_none fun j t hj ht => hno.out j t (by rw [← HL.out]; exact hj) ht
      go_wp2
      go_ret
      exact ⟨by rw [HR.out]; rfl, hbw.out⟩
    obtain ⟨b, o, g, rfl, hbB, hg, c0, c1, c2⟩ := LO.get (HX.out.below (hbw.out.mono hB)) hlt
    have hbwr : b < wr.heap.size := by have := hbw.out.size; omega
    have HC := Lib.hid (HCL.out g wr hbw.out)
    have HG := Lib.hid hg
    clear hg
    obtain ⟨g0, g1, g2, g3, g4, g5⟩ := g
    dsimp only at HC
    go_wp2_with fail
    refine HC.out.mono ?_
    rintro e w2 ⟨rfl, hb2⟩
    have HB2 := Lib.hid (below3 hbw.out hb2)
    clear hb2 HC
    cases hy : P ⟨g0, g1, g2, g3, g4, g5⟩
    case true =>
      have HR : Hid (idxQ P p = (k : Int)) := idxQ_at HG.out hy hno.out
      clear hy
      go_wp2
      go_ret
      exact ⟨by rw [HR.out]; rfl, HB2.out⟩
    case false =>
      have HN : Hid (∀ (j : Nat) (t : LO), j < k + 1 → p[j]? = some t → P t = false) := by
        intro j t hj ht
        rcases Nat.lt_or_ge j k with h | h
        · exact hno.out j t h ht
        · obtain rfl : j = k := by omega
          rw [HG.out] at ht
          obtain rfl := Option.some.inj ht
          exact hy
      clear hy
      go_wp2
      go_roundw
      case rel => exact ⟨k + 1, by omega, by go_num, HN, HB2⟩
      case measure => simp [intOf]; omega
set_option maxHeartbeats 2000000 in
theorem idxBak_any (P : BK → Bool) (q : Nat) (A : Option Addr) (n c B : Nat) (p : List BK) (w : World) (hx : Recs w B 9 A n c BK.vals p) (hB : B ≤ w.heap.size) (hn : n ≤ 140737488355328)
    (hcl : ∀ x W, Below w.heap.size w W → Calls Tryz.prog 118 #[.agg #[.int .u32 x.a, .int .i64 x.l, .int .u32 x.prim, .int .i64 x.p.iface, .int .u32 x.p.addr, .int .u32 x.p.router, .int .i64 x.p.weight, .slice x.p.A x.p.ln x.p.lc, .int .i64 x.p.backup], .pointer (some ⟨q, 0, none⟩)] W fun e w' => e = .returned (.bool (P x)) ∧ Below W.heap.size W w') :
    Calls Tryz.prog 117 #[.slice A n c, .func (.func 118) #[] #[.pointer (some ⟨q, 0, none⟩)]] w fun e w' => e = .returned (.int .i64 (idxQ P p)) ∧ Below w.heap.size w w' := by
  have HX := Lib.hid hx
  have HL : Hid (p.length = n) := hx.2
  have HCL := Lib.hid hcl
  clear hx hcl
  go_enter Tryz.func117, Tryz.ntmps117
  go_wp2
  go_loopw [8] (fun i wr => ∃ k : Nat, k ≤ n ∧ i = .int .i64 k ∧ Hid (∀ (j : Nat) (t : BK), j < k → p[j]? = some t → P t = false) ∧ Hid (Below w.heap.size w wr)) (fun i _ => n - (intOf i).toNat)
  case atStart => exact ⟨0, Nat.zero_le _, rfl, fun j t hj => absurd hj (by omega), Below.refl _ _⟩
  case round =>
    obtain ⟨k, hk, rfl, hno, hbw⟩ := hrel
    by_cases hlt : k < n
    case neg =>
      obtain rfl : k = n := by omega
      have HR : Hid (idxQ P p = -1) := idxQ_none fun j t hj ht => hno.out j t (by rw [← HL.out]; exact hj) ht
      go_wp2
      go_ret
      exact ⟨by rw [HR.out]; rfl, hbw.out⟩
    obtain ⟨b, o, g, rfl, hbB, hg, c0, c1, c2, c3, c4, c5, c6, c7, c8⟩ := BK.get (HX.out.below (hbw.out.mono hB)) hlt
    have hbwr : b < wr.heap.size := by have := hbw.out.size; omega
    have HC := Lib.hid (HCL.out g wr hbw.out)
    have HG := Lib.hid hg
    clear hg
    obtain ⟨g0, g1, g2, ⟨g3, g4, g5, g6, g7, g8, g9, g10, g11⟩⟩ := g
    dsimp only at HC
    go_wp2_with fail
    refine HC.out.mono ?_
    rintro e w2 ⟨rfl, hb2⟩
    have HB2 := Lib.hid (below3 hbw.out hb2)
    clear hb2 HC
    cases hy : P ⟨g0, g1, g2, ⟨g3, g4, g5, g6, g7, g8, g9, g10, g11⟩⟩
    case true =>
      have HR : Hid (idxQ P p = (k : Int)) := idxQ_at HG.out hy hno.out
      clear hy
      go_wp2
      go_ret
      exact ⟨by rw [HR.out]; rfl, HB2.out⟩
    case false =>
      have HN : Hid (∀ (j : Nat) (t : BK), j < k + 1 → p[j]? = some t → P t = false) := by
        intro j t hj ht
        rcases Nat.lt_or_ge j k with h | h
        · exact hno.out j t h ht
        · obtain rfl : j = k := by omega
          rw [HG.out] at ht
          obtain rfl := Option.some.inj ht
          exact hy
      clear hy
      go_wp2
      go_roundw
      case rel => exact ⟨k + 1, by omega, by go_num, HN, HB2⟩
      case measure => simp [intOf]; omega
end Go.Proofs.YtplppbgkkfjknaaGreatDoor
