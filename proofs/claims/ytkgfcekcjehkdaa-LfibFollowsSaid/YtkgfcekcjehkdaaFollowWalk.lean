/- Follow: the program's walk. -/
import Derived.Test.YtkgfcekcjehkdaaFollow
import Derived.Test.YtkgfcekcjehkdaaLaw46a
import Derived.Deep.RegionHeld3
import Derived.Deep.DeepCutAuto
namespace Go.Proofs.Ytkgfcekcjehkdaa
open Go.RowKit

/-- what Follow returns -/
def GivesF (q : List Int × PD × Int) (w : World) (e : Ending) (w' : World) : Prop :=
  ∃ A n c v, e = .returned (.tuple #[.slice A n c, v, .int .i64 q.2.2]) ∧ Own w' w.heap.size 3 .i64 (.slice A n c) n q.1 ∧ PkOwn w' w.heap.size v q.2.1 ∧ Below w.heap.size w w'
/-- the five cells of a packet's box -/
def C5 (N : Nat) (a0 a1 a2 a3 a4 : Value) (W : World) : Prop := W.cell? ⟨N, 0, none⟩ = some a0 ∧ W.cell? ⟨N, 1, none⟩ = some a1 ∧ W.cell? ⟨N, 2, none⟩ = some a2 ∧ W.cell? ⟨N, 3, none⟩ = some a3 ∧ W.cell? ⟨N, 4, none⟩ = some a4
/-- how long the packet in the box can still go -/
def muW (N : Nat) (W : World) : Nat :=
  (match W.cell? ⟨N, 3, none⟩ with | some (.int _ t) => t.toNat | _ => 0) + (match W.cell? ⟨N, 4, none⟩ with | some (.slice _ n _) => n | _ => 0)
theorem muW_of {N n c : Nat} {t : Int} {A : Option Addr} {W : World} (h3 : W.cell? ⟨N, 3, none⟩ = some (.int .i64 t)) (h4 : W.cell? ⟨N, 4, none⟩ = some (.slice A n c)) : muW N W = t.toNat + n := by
  unfold muW
  rw [h3, h4]
/-- what the call of Forward leaves in Follow -/
def AF (q : PD) (r x : Int) (base : Nat) (W : World) (s t u : Value) (wx : World) : Prop :=
  ∃ N A n c, s = .pointer (some ⟨N, 0, none⟩) ∧ t = .int .u32 r ∧ u = .int .i64 x ∧ PB N q.src q.dst q.flow q.ttl A n c wx ∧ Own wx base 3 .i64 (.slice A n c) n q.ls ∧ Below W.heap.size W wx
theorem own_one (w : World) (N base : Nat) (hN : N = w.heap.size) (hb : base ≤ N) (x : Int) : Own (w.alloc (.cells #[.int .i64 x] 3)) base 3 .i64 (.slice (some ⟨N, 0, none⟩) 1 1) 1 [x] := by
  subst hN
  exact World.ownsRow_lit (size := 1) w #[.int .i64 x] 1 hb (by simp [maxLen]) rfl
/-- two rows in different blocks -/
def Apt (u v : Value) : Prop := u.ownBlock = none ∨ u.ownBlock ≠ v.ownBlock
theorem apt_of {w w' : World} {b b' : Nat} {e : TypeId} {k : IntKind} {u v : Value} {n m : Nat} {xs ys : List Int} (h : Own w b e k u n xs) (h' : Own w' b' e k v m ys) (hb : w'.heap.size ≤ b ∨ w.heap.size ≤ b') : Apt u v := by
  unfold Apt
  cases hu : u.ownBlock with
  | none => exact .inl rfl
  | some g =>
    refine .inr fun h0 => ?_
    have h1 := World.ownsRow.lt h g hu
    have h2 := World.ownsRow.lt h' g h0.symm
    omega
/-- the loop of Follow -/
def FInv (w : World) (tn : Nat) (ts : List TV) (ids : List Int) (F : List Int × PD × Int) (a v : Value) (W : World) : Prop :=
  ∃ (at_ k : Nat) (q : PD) (A : Option Addr) (n c : Nat) (ws : List Int) (m : Nat), a = .int .i64 at_ ∧ at_ < tn ∧ mu q ≤ k ∧ m + k ≤ 4000 ∧ follow ts ids k at_ q ws = F ∧
    Bx w (.int .u32 q.src) (.int .u32 q.dst) (.int .u32 q.flow) (.int .i64 q.ttl) (.slice A n c) (.int .u32 0) (.int .u32 0) (.int .u32 0) (.int .i64 0) (.slice none 0 0) W ∧
    Own W (w.heap.size + 2) 3 .i64 (.slice A n c) n q.ls ∧ Own W (w.heap.size + 2) 3 .i64 v m ws ∧ Apt (.slice A n c) v ∧ Below w.heap.size w W ∧
    (∀ x ∈ q.ls, -9223372036854775808 ≤ x ∧ x ≤ 9223372036854775807) ∧ (0 ≤ q.flow ∧ q.flow < 4294967296) ∧ (-9223372036854775808 ≤ q.ttl ∧ q.ttl ≤ 9223372036854775807)
/-- behind the move of the packet that Forward gave into Follow's own -/
def RS (w : World) (q : PD) (A : Option Addr) (n c : Nat) (v : Value) (m : Nat) (ws : List Int) (W : World) : Prop :=
  Bx w (.int .u32 q.src) (.int .u32 q.dst) (.int .u32 q.flow) (.int .i64 q.ttl) (.slice A n c) (.int .u32 0) (.int .u32 0) (.int .u32 0) (.int .i64 0) (.slice none 0 0) W ∧
    Own W (w.heap.size + 2) 3 .i64 (.slice A n c) n q.ls ∧ Own W (w.heap.size + 2) 3 .i64 v m ws ∧ Apt (.slice A n c) v ∧ Below w.heap.size w W
theorem Bx.step {w W W' : World} {a0 a1 a2 a3 a4 b0 b1 b2 b3 b4 : Value} (h : Bx w a0 a1 a2 a3 a4 b0 b1 b2 b3 b4 W) (hb : Below W.heap.size W W') : Bx w a0 a1 a2 a3 a4 b0 b1 b2 b3 b4 W' := by
  obtain ⟨⟨p0, p1, p2, p3, p4⟩, ⟨q0, q1, q2, q3, q4⟩, fz, fz1, hz, hz1⟩ := h
  obtain ⟨hc, hf, hs⟩ := bcell hb
  exact ⟨⟨(hc _ _ hz).trans p0, (hc _ _ hz).trans p1, (hc _ _ hz).trans p2, (hc _ _ hz).trans p3, (hc _ _ hz).trans p4⟩, ⟨(hc _ _ hz1).trans q0, (hc _ _ hz1).trans q1, (hc _ _ hz1).trans q2, (hc _ _ hz1).trans q3, (hc _ _ hz1).trans q4⟩, fun o => (hf _ _ hz).trans (fz o), fun o => (hf _ _ hz1).trans (fz1 o), hs _ hz, hs _ hz1⟩
theorem Bx.far {w W W' : World} {a0 a1 a2 a3 a4 b0 b1 b2 b3 b4 : Value} (h : Bx w a0 a1 a2 a3 a4 b0 b1 b2 b3 b4 W) (hb : Below (w.heap.size + 2) W W') : Bx w a0 a1 a2 a3 a4 b0 b1 b2 b3 b4 W' := by
  obtain ⟨⟨p0, p1, p2, p3, p4⟩, ⟨q0, q1, q2, q3, q4⟩, fz, fz1, hz, hz1⟩ := h
  have e0 : w.heap.size < w.heap.size + 2 := by omega
  have e1 : w.heap.size + 1 < w.heap.size + 2 := by omega
  have c0 : ∀ o, W'.cell? ⟨w.heap.size, o, none⟩ = W.cell? ⟨w.heap.size, o, none⟩ := fun o => hb.cell (p := ⟨w.heap.size, o, none⟩) e0
  have c1 : ∀ o, W'.cell? ⟨w.heap.size + 1, o, none⟩ = W.cell? ⟨w.heap.size + 1, o, none⟩ := fun o => hb.cell (p := ⟨w.heap.size + 1, o, none⟩) e1
  exact ⟨⟨(c0 _).trans p0, (c0 _).trans p1, (c0 _).trans p2, (c0 _).trans p3, (c0 _).trans p4⟩, ⟨(c1 _).trans q0, (c1 _).trans q1, (c1 _).trans q2, (c1 _).trans q3, (c1 _).trans q4⟩, fun o => (hb.frozen (p := ⟨w.heap.size, o, none⟩) e0).trans (fz o), fun o => (hb.frozen (p := ⟨w.heap.size + 1, o, none⟩) e1).trans (fz1 o), by have := hb.size; omega, by have := hb.size; omega⟩
theorem apt_grown {w w' : World} {b : Nat} {e : TypeId} {k : IntKind} {u v v' : Value} {n : Nat} {xs : List Int} (h : Own w b e k u n xs) (ha : Apt u v) (hv : v'.ownBlock = v.ownBlock ∨ v'.ownBlock = some w'.heap.size) (hs : w.heap.size ≤ w'.heap.size) : Apt u v' := by
  unfold Apt at *
  rcases hv with hv | hv
  · rw [hv]; exact ha
  · rw [hv]
    cases hu : u.ownBlock with
    | none => exact .inl rfl
    | some g =>
      refine .inr fun h0 => ?_
      have h1 := World.ownsRow.lt h g hu
      injection h0 with h0
      omega
theorem own_below {w w' : World} {base : Nat} {e : TypeId} {k : IntKind} {v : Value} {n : Nat} {xs : List Int} (h : Own w base e k v n xs) (hb : Below w.heap.size w w') : Own w' base e k v n xs := by
  refine ⟨h.1, ?_⟩
  rcases h.2 with h2 | ⟨g, cap, cur, hv, hg, hh, r⟩
  · exact .inl h2
  · refine .inr ⟨g, cap, cur, hv, hg, ?_, r⟩
    rw [hb.block g]
    · exact hh
    · rcases Nat.lt_or_ge g w.heap.size with hl | hl
      · exact hl
      · rw [Array.getElem?_eq_none hl] at hh
        cases hh
theorem follow_err {ts : List TV} {ids : List Int} {k a : Nat} {p q : PD} {way : List Int} {r e : Int} (h : ¬ p.ls.length = 0) (hq : fwd (esAt ts a) p = (q, r, e)) (he : ¬ e = 0) : follow ts ids (k + 1) a p way = ([], zeroPD, e) := by
  rw [follow, if_neg h, hq, if_pos he]
theorem follow_stay {ts : List TV} {ids : List Int} {k a : Nat} {p q : PD} {way : List Int} (h : ¬ p.ls.length = 0) (hq : fwd (esAt ts a) p = (q, 0, 0)) : follow ts ids (k + 1) a p way = follow ts ids k a q way := by
  rw [follow, if_neg h, hq, if_neg (by simp), if_pos rfl]
theorem follow_lost {ts : List TV} {ids : List Int} {k a : Nat} {p q : PD} {way : List Int} {r : Int} (h : ¬ p.ls.length = 0) (hq : fwd (esAt ts a) p = (q, r, 0)) (hr : ¬ r = 0) (hi : idx ids r < 0) : follow ts ids (k + 1) a p way = ([], zeroPD, 6) := by
  rw [follow, if_neg h, hq, if_neg (by simp), if_neg hr, if_pos hi]
theorem follow_move {ts : List TV} {ids : List Int} {k a : Nat} {p q : PD} {way : List Int} {r : Int} (h : ¬ p.ls.length = 0) (hq : fwd (esAt ts a) p = (q, r, 0)) (hr : ¬ r = 0) (hi : ¬ idx ids r < 0) : follow ts ids (k + 1) a p way = follow ts ids k (idx ids r).toNat q (way ++ [idx ids r]) := by
  rw [follow, if_neg h, hq, if_neg (by simp), if_neg hr, if_neg hi]
theorem badId_or (ids : List Int) (i : Nat) (y : Int) (h : ids.getD i 0 = y) : badId ids i ↔ (y = 0 ∨ 0 ≤ idx (ids.take i) y) := by unfold badId; rw [h]
theorem F6.of {N bT oT : Nat} {v a0 a1 a2 a3 a4 : Value} {V W : World} (hT : bT < V.heap.size) (hN : N < V.heap.size) (g : V.cell? ⟨bT, oT, none⟩ = some v)
    (p0 : V.cell? ⟨N, 0, none⟩ = some a0) (p1 : V.cell? ⟨N, 1, none⟩ = some a1) (p2 : V.cell? ⟨N, 2, none⟩ = some a2) (p3 : V.cell? ⟨N, 3, none⟩ = some a3) (p4 : V.cell? ⟨N, 4, none⟩ = some a4) (hb : Below V.heap.size V W) :
    W.cell? ⟨bT, oT, none⟩ = some v ∧ W.cell? ⟨N, 0, none⟩ = some a0 ∧ W.cell? ⟨N, 1, none⟩ = some a1 ∧ W.cell? ⟨N, 2, none⟩ = some a2 ∧ W.cell? ⟨N, 3, none⟩ = some a3 ∧ W.cell? ⟨N, 4, none⟩ = some a4 ∧ Hid (Below V.heap.size V W) :=
  ⟨(hb.cell (p := ⟨bT, oT, none⟩) hT).trans g, (hb.cell (p := ⟨N, 0, none⟩) hN).trans p0, (hb.cell (p := ⟨N, 1, none⟩) hN).trans p1, (hb.cell (p := ⟨N, 2, none⟩) hN).trans p2, (hb.cell (p := ⟨N, 3, none⟩) hN).trans p3, (hb.cell (p := ⟨N, 4, none⟩) hN).trans p4, hb⟩
theorem F6.b {N bT oT : Nat} {v a0 a1 a2 a3 a4 : Value} {V W : World} (h : W.cell? ⟨bT, oT, none⟩ = some v ∧ W.cell? ⟨N, 0, none⟩ = some a0 ∧ W.cell? ⟨N, 1, none⟩ = some a1 ∧ W.cell? ⟨N, 2, none⟩ = some a2 ∧ W.cell? ⟨N, 3, none⟩ = some a3 ∧ W.cell? ⟨N, 4, none⟩ = some a4 ∧ Hid (Below V.heap.size V W)) : Below V.heap.size V W := h.2.2.2.2.2.2.out
set_option linter.unusedSimpArgs false
set_option maxRecDepth 100000 in
set_option maxHeartbeats 4000000 in
theorem follow_any (T U A : Option Addr) (tn tc un uc n c : Nat) (ts : List TV) (ids : List Int) (at_ : Int) (p : PD) (w : World) (ht : Tabs w w.heap.size T tn tc ts) (htn : tn ≤ 40) (hlen : ∀ t ∈ ts, t.n ≤ 140737488355328 ∧ ∀ e ∈ t.es, e.n ≤ 140737488355328)
    (hu : Ints w w.heap.size .u32 U un uc ids) (hun : un ≤ 40) (hp : Ints w w.heap.size .i64 A n c p.ls) (hn : n ≤ 1000)
    (hw : ∀ x ∈ p.ls, -9223372036854775808 ≤ x ∧ x ≤ 9223372036854775807) (hf : 0 ≤ p.flow ∧ p.flow < 4294967296) (httl : -9223372036854775808 ≤ p.ttl ∧ p.ttl ≤ 2000) :
    Calls Try.prog 19 #[.slice T tn tc, .slice U un uc, .int .i64 at_, .agg #[.int .u32 p.src, .int .u32 p.dst, .int .u32 p.flow, .int .i64 p.ttl, .slice A n c]] w (GivesF (followAll ts ids at_ p) w) := by
  obtain ⟨Z, hZ⟩ : ∃ Z, ((w.alloc (.cells #[.int .u32 p.src, .int .u32 p.dst, .int .u32 p.flow, .int .i64 p.ttl, .slice A n c] 27)).alloc (.cells #[.int .u32 0, .int .u32 0, .int .u32 0, .int .i64 0, .slice none 0 0] 27)) = Z := ⟨_, rfl⟩
  have HB0 : Hid (Below w.heap.size w Z) := by subst hZ; exact ((Below.refl _ _).alloc (Nat.le_refl _) _).alloc (by simp) _
  have HZS : Hid (Z.heap.size = w.heap.size + 2) := by subst hZ; show _ = _; simp
  have HBX : Hid (∀ W, Below (w.heap.size + 2) Z W → Bx w (.int .u32 p.src) (.int .u32 p.dst) (.int .u32 p.flow) (.int .i64 p.ttl) (.slice A n c) (.int .u32 0) (.int .u32 0) (.int .u32 0) (.int .i64 0) (.slice none 0 0) W) := fun W h => by subst hZ; exact boxes h
  have hlp := hp.len
  have htl := ht.len
  have hul := hu.len
  have HT := Lib.hid ht
  have HU := Lib.hid hu
  have HP := Lib.hid hp
  have HLP := Lib.hid hlp
  have HTL := Lib.hid htl
  have HUL := Lib.hid hul
  have HW := Lib.hid hw
  have HFL := Lib.hid hf
  have HTT : Hid (-9223372036854775808 ≤ p.ttl ∧ p.ttl ≤ 2000) := httl
  have HLEN := Lib.hid hlen
  have hmu : mu p ≤ 3000 := by unfold mu; rw [hlp]; omega
  have HMU := Lib.hid hmu
  obtain ⟨src, dst, fl, ttl, ps⟩ := p
  obtain ⟨F, hF⟩ : ∃ F, followAll ts ids at_ ⟨src, dst, fl, ttl, ps⟩ = F := ⟨_, rfl⟩
  have HF : Hid (followAll ts ids at_ ⟨src, dst, fl, ttl, ps⟩ = F) := hF
  rw [hF]
  dsimp only at *
  obtain ⟨⟨p0, p1, p2, p3, p4⟩, ⟨q0, q1, q2, q3, q4⟩, fz, fz1, hz, hz1⟩ := HBX.out Z (Below.refl _ _)
  clear ht hlen hu hp hw hf httl hlp htl hul hF hmu
  go_enter Try.func19, Try.ntmps19
  by_cases hr0 : un = tn
  case neg =>
    have d0 : ((un : Int) != (tn : Int)) = true := by simp; omega
    have HG : Hid (F = ([], zeroPD, 5)) := by show _ = _; rw [← HF.out]; exact followAll_range (.inl (by rw [HUL.out, HTL.out]; exact hr0))
    go_wp2
    refine bodyPost_ret (v := .tuple #[.slice none 0 0, .agg #[.int .u32 0, .int .u32 0, .int .u32 0, .int .i64 0, .slice none 0 0], .int .i64 5]) (by simp [results, Try.results19, go_sem, q0, q1, q2, q3, q4, hz, hz1]) rfl ?_
    rw [HG.out]
    refine ⟨_, _, _, _, rfl, Own.nil _ _ _ _, PkOwn.zero _ _, ?_⟩
    repeat with_reducible refine Below.setCell ?_ (by simp) _
    with_reducible exact HB0.out
  subst hr0
  by_cases hr1 : at_ < 0
  · have d1 : decide (at_ < 0) = true := by simp [hr1]
    have HG : Hid (F = ([], zeroPD, 5)) := by show _ = _; rw [← HF.out]; exact followAll_range (.inr (.inl hr1))
    go_wp2
    refine bodyPost_ret (v := .tuple #[.slice none 0 0, .agg #[.int .u32 0, .int .u32 0, .int .u32 0, .int .i64 0, .slice none 0 0], .int .i64 5]) (by simp [results, Try.results19, go_sem, q0, q1, q2, q3, q4, hz, hz1]) rfl ?_
    rw [HG.out]
    refine ⟨_, _, _, _, rfl, Own.nil _ _ _ _, PkOwn.zero _ _, ?_⟩
    repeat with_reducible refine Below.setCell ?_ (by simp) _
    with_reducible exact HB0.out
  by_cases hr2 : (un : Int) ≤ at_
  · have d1 : decide (at_ < 0) = false := by simp; omega
    have d2 : decide (at_ ≥ (un : Int)) = true := by simp; omega
    have HG : Hid (F = ([], zeroPD, 5)) := by show _ = _; rw [← HF.out]; exact followAll_range (.inr (.inr (by rw [HTL.out]; exact hr2)))
    go_wp2
    refine bodyPost_ret (v := .tuple #[.slice none 0 0, .agg #[.int .u32 0, .int .u32 0, .int .u32 0, .int .i64 0, .slice none 0 0], .int .i64 5]) (by simp [results, Try.results19, go_sem, q0, q1, q2, q3, q4, hz, hz1]) rfl ?_
    rw [HG.out]
    refine ⟨_, _, _, _, rfl, Own.nil _ _ _ _, PkOwn.zero _ _, ?_⟩
    repeat with_reducible refine Below.setCell ?_ (by simp) _
    with_reducible exact HB0.out
  have d1 : decide (at_ < 0) = false := by simp; omega
  have d2 : decide (at_ ≥ (un : Int)) = false := by simp; omega
  have HR1 : Hid (0 ≤ at_) := by show _ ≤ _; omega
  have HR2 : Hid (at_ < un) := by show _ < _; omega
  clear hr1 hr2
  go_wp2
  go_loop [35] (fun i => ∃ k : Nat, k ≤ un ∧ i = .int .i64 k ∧ Hid (∀ j, j < k → ¬ badId ids j)) (fun i => un - (intOf i).toNat)
  case atStart => exact ⟨0, Nat.zero_le _, rfl, fun j hj => absurd hj (by omega)⟩
  case round =>
    obtain ⟨k, hk, rfl, hno⟩ := hrel
    by_cases hlt : k < un
    · obtain ⟨b, o, y, rfl, hbB, c0, hy⟩ := (HU.out.below HB0.out).cell hlt
      by_cases hy0 : y = 0
      · subst hy0
        have HG : Hid (F = ([], zeroPD, 1)) := by
          show _ = _
          rw [← HF.out]
          exact followAll_bad (by rw [HUL.out, HTL.out]) HR1.out (by rw [HTL.out]; exact HR2.out) (i := k) (by rw [HUL.out]; exact hlt) ((badId_or ids k 0 hy.out).2 (.inl rfl))
        go_wp2
        refine bodyPost_ret (v := .tuple #[.slice none 0 0, .agg #[.int .u32 0, .int .u32 0, .int .u32 0, .int .i64 0, .slice none 0 0], .int .i64 1]) (by simp [results, Try.results19, go_sem, q0, q1, q2, q3, q4, hz, hz1]) rfl ?_
        rw [HG.out]
        refine ⟨_, _, _, _, rfl, Own.nil _ _ _ _, PkOwn.zero _ _, ?_⟩
        repeat with_reducible refine Below.setCell ?_ (by simp) _
        with_reducible exact HB0.out
      have d3 : (y == 0) = false := by simp [hy0]
      have hkc : k ≤ uc := by have := HU.out.1; omega
      go_wp2_with fail
      refine (contains_any (some ⟨b, o, none⟩) k uc w.heap.size (ids.take k) y Z ((HU.out.below HB0.out).prefix (by omega)) (by omega)).mono ?_
      rintro e w1 ⟨rfl, rfl⟩
      by_cases hc : 0 ≤ idx (ids.take k) y
      · have d4 : decide (0 ≤ idx (ids.take k) y) = true := by simp [hc]
        have HG : Hid (F = ([], zeroPD, 1)) := by
          show _ = _
          rw [← HF.out]
          exact followAll_bad (by rw [HUL.out, HTL.out]) HR1.out (by rw [HTL.out]; exact HR2.out) (i := k) (by rw [HUL.out]; exact hlt) ((badId_or ids k y hy.out).2 (.inr hc))
        rw [d4]
        clear hc d4
        go_wp2
        refine bodyPost_ret (v := .tuple #[.slice none 0 0, .agg #[.int .u32 0, .int .u32 0, .int .u32 0, .int .i64 0, .slice none 0 0], .int .i64 1]) (by simp [results, Try.results19, go_sem, q0, q1, q2, q3, q4, hz, hz1]) rfl ?_
        rw [HG.out]
        refine ⟨_, _, _, _, rfl, Own.nil _ _ _ _, PkOwn.zero _ _, ?_⟩
        repeat with_reducible refine Below.setCell ?_ (by simp) _
        with_reducible exact HB0.out
      have d4 : decide (0 ≤ idx (ids.take k) y) = false := by simp; omega
      have HN : Hid (∀ j, j < k + 1 → ¬ badId ids j) := by
        intro j hj
        rcases Nat.lt_or_ge j k with h | h
        · exact hno.out j h
        · obtain rfl : j = k := by omega
          exact fun hb => ((badId_or ids j y hy.out).1 hb).elim hy0 hc
      rw [d4]
      clear hc d4
      go_wp2
      go_round
      case rel => exact ⟨k + 1, by omega, by go_num, HN⟩
      case measure => simp [intOf]; omega
    obtain rfl : k = un := by omega
    have HG : Hid (F = follow ts ids (mu ⟨src, dst, fl, ttl, ps⟩) at_.toNat ⟨src, dst, fl, ttl, ps⟩ [at_]) := by
      show _ = _
      rw [← HF.out]
      exact followAll_go (by rw [HUL.out, HTL.out]) HR1.out (by rw [HTL.out]; exact HR2.out) (fun i hi => hno.out i (by rw [← HUL.out]; exact hi))
    clear hno hlt
    go_wp2_with fail
    refine (cloneOwn_any A n c ps Z ((HP.out.below HB0.out).more HB0.out.size) (by omega)).mono ?_
    rintro e w2 ⟨A2, c2, rfl, ho2, hb2⟩
    clear p0 p1 p2 p3 p4 q0 q1 q2 q3 q4 fz fz1 hz hz1
    have HO2 : Hid (Own w2 (w.heap.size + 2) 3 .i64 (.slice A2 n c2) n ps) := own_low ho2 (by rw [HZS.out]; omega)
    have HW2 : Hid (Below w.heap.size w w2) := HB0.out.trans (hb2.mono HB0.out.size)
    obtain ⟨⟨p0, p1, p2, p3, p4⟩, ⟨q0, q1, q2, q3, q4⟩, fz, fz1, hz, hz1⟩ := HBX.out w2 (hb2.mono (by rw [HZS.out]; omega))
    clear ho2 hb2
    go_wp2
    go_loopw [2, 13] (fun a v wr => FInv w k ts ids F a v wr) (fun _ _ wr => muW w.heap.size wr)
    case atStart =>
      have hat : ((at_.toNat : Nat) : Int) = at_ := Int.toNat_of_nonneg HR1.out
      have hak : at_.toNat < k := by have := HR2.out; omega
      refine ⟨at_.toNat, mu ⟨src, dst, fl, ttl, ps⟩, ⟨src, dst, fl, ttl, ps⟩, A2, n, c2, [at_], 1, by rw [hat], hak, Nat.le_refl _, by have := HMU.out; omega, HG.out.symm, ?_, ?_, ?_, ?_, ?_, HW.out, HFL.out, ⟨HTT.out.1, Int.le_trans HTT.out.2 (by decide)⟩⟩
      · exact ⟨⟨by go_simp, by go_simp, by go_simp, by go_simp, by go_simp⟩, ⟨by go_simp, by go_simp, by go_simp, by go_simp, by go_simp⟩, fun o => by go_simp, fun o => by go_simp, by simp; omega, by simp; omega⟩
      · exact (HO2.out.setBelow (p := ⟨w.heap.size, 4, none⟩) (by show w.heap.size < w.heap.size + 2; omega) _).alloc _
      · exact own_one _ _ _ (by simp) (by omega) _
      · exact apt_of HO2.out (own_one (w2.setCell ⟨w.heap.size, 4, none⟩ (.slice A2 n c2)) _ w2.heap.size (by simp) (Nat.le_refl _) at_) (.inr (Nat.le_refl _))
      · exact (HW2.out.setCell (p := ⟨w.heap.size, 4, none⟩) (Nat.le_refl _) _).alloc (by simp; omega) _
    case round =>
      clear p0 p1 p2 p3 p4 q0 q1 q2 q3 q4 fz fz1 hz hz1 HO2 HW2 HP HLP HW HFL HTT HMU HG HF HBX HZS HB0 hZ
      obtain ⟨a, kk, ⟨s2, d2, f2, t2, l2⟩, A3, n3, c3, ws, m, rfl, hak, hmk, hm4, hfo, hbx, hol, how, hap, hbw, hw3, hf3, ht3⟩ := hrel
      dsimp only at *
      have HBX3 := Lib.hid hbx
      obtain ⟨⟨p0, p1, p2, p3, p4⟩, ⟨q0, q1, q2, q3, q4⟩, fz, fz1, hz, hz1⟩ := hbx
      obtain ⟨A4, c4, rfl⟩ := own_form how
      have HOL := Lib.hid hol
      have HOW := Lib.hid how
      have HBW := Lib.hid hbw
      have HFO := Lib.hid hfo
      have HAP := Lib.hid hap
      have hl2 := hol.len
      clear hol how hbw hfo hap
      by_cases hn0 : n3 = 0
      · subst hn0
        have HG : Hid (F = (ws, ⟨s2, d2, f2, t2, l2⟩, 0)) := by
          show _ = _
          rw [← HFO.out]
          exact follow_done (by show l2.length = 0; omega)
        have d5 : decide (((0 : Nat) : Int) > 0) = false := by simp
        clear hw3 hf3 ht3 hmk hm4 hl2
        go_wp2
        go_region
        go_wp2
        refine bodyPost_ret (v := .tuple #[.slice A4 m c4, .agg #[.int .u32 s2, .int .u32 d2, .int .u32 f2, .int .i64 t2, .slice A3 0 c3], .int .i64 0]) (by simp [results, Try.results19, go_sem, q0, q1, q2, q3, q4, hz1]) rfl ?_
        rw [HG.out]
        refine ⟨_, _, _, _, rfl, own_low (b := w.heap.size + 2) ?_ (by omega), ⟨A3, 0, c3, rfl, own_low (b := w.heap.size + 2) ?_ (by omega)⟩, ?_⟩
        · repeat (first | with_reducible refine Own.setBelow ?_ (by show _ < w.heap.size + 2; simp) _ | with_reducible refine own_drew ?_)
          with_reducible exact HOW.out
        · repeat (first | with_reducible refine Own.setBelow ?_ (by show _ < w.heap.size + 2; simp) _ | with_reducible refine own_drew ?_)
          with_reducible exact HOL.out
        · repeat (first | with_reducible refine Below.setCell ?_ (by simp) _ | with_reducible refine Below.drew ?_)
          with_reducible exact HBW.out
      have d5 : decide ((n3 : Int) > 0) = true := by simp; omega
      obtain ⟨kk, rfl⟩ : ∃ j, kk = j + 1 := ⟨kk - 1, by unfold mu at hmk; dsimp only at hmk; omega⟩
      obtain ⟨bT, oT, x, rfl, hbT, hx, hxt, g0⟩ := (HT.out.below HBW.out).get hak
      have hbTw : bT < wr.heap.size := Nat.lt_of_lt_of_le hbT HBW.out.size
      have hxe := es_of hx
      have hln : n3 ≤ 4000 := by unfold mu at hmk; dsimp only at hmk; omega
      have FW : Hid (∀ W, Below wr.heap.size wr W → Calls Try.prog 15 #[.slice x.A x.n x.c, .agg #[.int .u32 s2, .int .u32 d2, .int .u32 f2, .int .i64 t2, .slice A3 n3 c3]] W (GivesP3 (fwd x.es ⟨s2, d2, f2, t2, l2⟩) W)) :=
        fun W h => forward_any x.A A3 x.n x.c n3 c3 x.es ⟨s2, d2, f2, t2, l2⟩ W ((hxt.more HBW.out.size).below h |>.more h.size) (HLEN.out x (List.mem_of_getElem? hx)).2 (HLEN.out x (List.mem_of_getElem? hx)).1 ((HOL.out.ints.below h).more h.size) (by omega) hw3 hf3 ht3
      obtain ⟨⟨⟨s4, d4, f4, t4, l4⟩, r, e⟩, hq⟩ : ∃ q, fwd x.es ⟨s2, d2, f2, t2, l2⟩ = q := ⟨_, rfl⟩
      rw [hq] at FW
      rw [← hxe] at hq
      have HQ := Lib.hid hq
      have HM : Hid (mu ⟨s2, d2, f2, t2, l2⟩ ≤ kk + 1) := hmk
      have HK : Hid (e = 0 → Kept ⟨s2, d2, f2, t2, l2⟩ ⟨s4, d4, f4, t4, l4⟩ r) := fun he => by
        have h := fwd_kept (es := esAt ts a) (p := ⟨s2, d2, f2, t2, l2⟩) (by rw [hq]; exact he)
        rw [hq] at h
        exact h
      have HW3 := Lib.hid hw3
      have HF3 := Lib.hid hf3
      have HT3 : Hid (-9223372036854775808 ≤ t2 ∧ t2 ≤ 9223372036854775807) := ht3
      have HL2 := Lib.hid hl2
      clear hw3 hf3 ht3 hmk hl2 hxt hx hxe hq hln
      go_upto_region 12 with fail
      go_cut [14, 15, 16] (fun s t u wx => AF ⟨s4, d4, f4, t4, l4⟩ r e wr.heap.size wr s t u wx)
      case first =>
        have hs0 : wr.cell? ⟨bT, oT + a, none⟩ = some (.slice x.A x.n x.c) := g0
        go_region_held3 (fun w' => w'.cell? ⟨bT, oT + a, none⟩ = some (.slice x.A x.n x.c) ∧ w'.cell? ⟨w.heap.size, 0, none⟩ = some (.int .u32 s2) ∧ w'.cell? ⟨w.heap.size, 1, none⟩ = some (.int .u32 d2) ∧ w'.cell? ⟨w.heap.size, 2, none⟩ = some (.int .u32 f2) ∧ w'.cell? ⟨w.heap.size, 3, none⟩ = some (.int .i64 t2) ∧ w'.cell? ⟨w.heap.size, 4, none⟩ = some (.slice A3 n3 c3) ∧ Hid (Below wr.heap.size wr w'))
          (first | exact F6.of hbTw hz g0 p0 p1 p2 p3 p4 (by repeat (first | exact hs.2.2.2.2.2.2.out | exact (Below.refl _ _).drew | exact Below.refl _ _ | refine Below.alloc ?_ (by (try simp) <;> omega) _ | refine Below.setCell ?_ (by (try simp) <;> omega) _ | refine Below.drew ?_)))
          (first
            | (go_at_call 15; (with_reducible refine (FW.out _ (F6.b (by assumption))).mono ?_); rintro e w' ⟨v, rfl, ⟨A6, n6, c6, rfl, ho⟩, hb⟩; have hs := F6.of hbTw hz g0 p0 p1 p2 p3 p4 (below3 (F6.b (by assumption)) hb); obtain ⟨hc, hf, _⟩ := bcell hb; have hsz := hb.size; (try simp at hsz); have hsw := hs.2.2.2.2.2.2.out.size; have HO6 := Lib.hid ho; clear hb ho))
        all_goals (go_wp2_with fail; go_meet)
        · exact ⟨_, A6, n6, c6, rfl, rfl, rfl, PB.new w', HO6.out.alloc _, hs.2.2.2.2.2.2.out.alloc (by omega) _⟩
        · refine ⟨_, A6, n6, c6, rfl, rfl, rfl, ⟨by go_simp, by go_simp, by go_simp, by go_simp, by go_simp, by simp; omega⟩, own_low (b := wr.heap.size + 1) ?_ (by omega), ?_⟩
          · repeat with_reducible refine Own.setBelow ?_ (by show wr.heap.size < wr.heap.size + 1; omega) _
            exact own_low HO6.out (by simp)
          · repeat with_reducible refine Below.setCell ?_ (by simp) _
            with_reducible exact hs.2.2.2.2.2.2.out
      case rest =>
        obtain ⟨N, A6, n6, c6, rfl, rfl, rfl, hpb, ho6, hb6⟩ := hcut
        clear g0 p0 p1 p2 p3 p4 q0 q1 q2 q3 q4 fz fz1 FW
        have HNL : Hid (¬ (⟨s2, d2, f2, t2, l2⟩ : PD).ls.length = 0) := by show ¬ l2.length = 0; rw [HL2.out]; exact hn0
        have HB6 := Lib.hid hb6
        have HBC : Hid (Below w.heap.size w wc) := HBW.out.trans (hb6.mono HBW.out.size)
        have HAP6 := Lib.hid (apt_of ho6 HOW.out (.inl (Nat.le_refl _)))
        have HO6 := Lib.hid (own_low ho6 hz1)
        have HW6 := Lib.hid (own_below HOW.out hb6)
        have HPB := Lib.hid hpb
        clear hz hz1 hb6 ho6 hpb HOW HOL
        by_cases he : e = 0
        case neg =>
          have d6 : (e != 0) = true := by simp [he]
          have HG : Hid (F = ([], zeroPD, e)) := by show _ = _; rw [← HFO.out]; exact follow_err HNL.out HQ.out he
          obtain ⟨⟨p0, p1, p2, p3, p4⟩, ⟨q0, q1, q2, q3, q4⟩, fz, fz1, hz, hz1⟩ := HBX3.out.step HB6.out
          clear he HPB HO6 HW6
          go_wp2
          refine bodyPost_ret (v := .tuple #[.slice none 0 0, .agg #[.int .u32 0, .int .u32 0, .int .u32 0, .int .i64 0, .slice none 0 0], .int .i64 e]) (by simp [results, Try.results19, go_sem, q0, q1, q2, q3, q4, hz, hz1]) rfl ?_
          rw [HG.out]
          refine ⟨_, _, _, _, rfl, Own.nil _ _ _ _, PkOwn.zero _ _, ?_⟩
          repeat with_reducible refine Below.setCell ?_ (by simp) _
          with_reducible exact HBC.out
        subst he
        go_upto_region 15 with fail
        go_cut [] (fun wx => RS w ⟨s4, d4, f4, t4, l4⟩ A6 n6 c6 (.slice A4 m c4) m ws wx)
        case first =>
          obtain ⟨g0, g1, g2, g3, g4, gz⟩ := HPB.out
          obtain ⟨⟨p0, p1, p2, p3, p4⟩, ⟨q0, q1, q2, q3, q4⟩, fz, fz1, hz, hz1⟩ := HBX3.out.step HB6.out
          go_wp2_with fail
          go_meet
          refine ⟨⟨⟨by go_simp, by go_simp, by go_simp, by go_simp, by go_simp⟩, ⟨by go_simp, by go_simp, by go_simp, by go_simp, by go_simp⟩, fun o => by go_simp, fun o => by go_simp, by simp; omega, by simp; omega⟩, ?_, ?_, HAP6.out, ?_⟩
          · repeat with_reducible refine Own.setBelow ?_ (by show w.heap.size < w.heap.size + 2; omega) _
            with_reducible exact HO6.out
          · repeat with_reducible refine Own.setBelow ?_ (by show w.heap.size < w.heap.size + 2; omega) _
            with_reducible exact HW6.out
          · repeat with_reducible refine Below.setCell ?_ (by simp) _
            with_reducible exact HBC.out
        case rest =>
          obtain ⟨hbx, hol, how, hap, hbw⟩ := hcut
          have K := HK.out rfl
          have hml := hol.len
          have HMW : Hid (muW w.heap.size wc = t4.toNat + n6) := muW_of hbx.1.2.2.2.1 hbx.1.2.2.2.2
          have HMR : Hid (muW w.heap.size wr = t2.toNat + n3) := muW_of HBX3.out.1.2.2.2.1 HBX3.out.1.2.2.2.2
          have HMM : Hid (t4.toNat + n6 < t2.toNat + n3 ∧ t4.toNat + n6 ≤ kk) := by
            have h1 := K.mu
            have h2 := HM.out
            unfold mu at h1 h2
            dsimp only at h1 h2
            have h3 := HL2.out
            dsimp only at hml
            rw [hml, h3] at h1
            rw [h3] at h2
            exact ⟨h1, by omega⟩
          have HMK : Hid (mu ⟨s4, d4, f4, t4, l4⟩ ≤ kk) := by
            show mu _ ≤ _
            unfold mu
            dsimp only at hml ⊢
            rw [hml]
            exact HMM.out.2
          have HW4 : Hid (∀ y ∈ l4, -9223372036854775808 ≤ y ∧ y ≤ 9223372036854775807) := fun y hy => by
            rcases K.ls y hy with h | h
            · exact HW3.out y h
            · omega
          have HF4 : Hid (0 ≤ f4 ∧ f4 < 4294967296) := by
            have : f4 = f2 := K.flow
            rw [this]
            exact HF3.out
          have HT4 : Hid (-9223372036854775808 ≤ t4 ∧ t4 ≤ 9223372036854775807) := by
            have h := HT3.out
            rcases K.ttl with ⟨_, h1⟩ | ⟨_, h0, h1⟩
            · have : t4 = t2 := h1
              rw [this]
              exact h
            · have h1 : t4 = t2 - 1 := h1
              have h0 : 2 ≤ t2 := h0
              show _ ∧ _
              omega
          have HBX := Lib.hid hbx
          have HOL := Lib.hid hol
          have HOW := Lib.hid how
          have HAP := Lib.hid hap
          have HBW := Lib.hid hbw
          clear K hml hbx hol how hap hbw
          by_cases hr : r = 0
          · subst hr
            have HG : Hid (follow ts ids kk a ⟨s4, d4, f4, t4, l4⟩ ws = F) := by show _ = _; rw [← HFO.out]; exact (follow_stay HNL.out HQ.out).symm
            go_wp2
            go_roundw
            case rel => exact ⟨a, kk, ⟨s4, d4, f4, t4, l4⟩, A6, n6, c6, ws, m, rfl, hak, HMK.out, by omega, HG.out, HBX.out, HOL.out, HOW.out, HAP.out, HBW.out, HW4.out, HF4.out, HT4.out⟩
            case measure => rw [HMW.out, HMR.out]; exact HMM.out.1
          have d7 : (r == 0) = false := by simp [hr]
          go_wp2_with fail
          refine (index_any U k uc w.heap.size ids r _ (HU.out.below HBW.out) (by omega)).mono ?_
          rintro e w' ⟨rfl, rfl⟩
          have hix := (idx_lt ids r).2
          rw [HUL.out] at hix
          by_cases hi : idx ids r < 0
          · have HG : Hid (F = ([], zeroPD, 6)) := by show _ = _; rw [← HFO.out]; exact follow_lost HNL.out HQ.out hr hi
            have d8 : decide (idx ids r < 0) = true := by simp [hi]
            obtain ⟨ii, hii⟩ : ∃ ii, idx ids r = ii := ⟨_, rfl⟩
            rw [hii] at d8 ⊢
            obtain ⟨⟨p0, p1, p2, p3, p4⟩, ⟨q0, q1, q2, q3, q4⟩, fz, fz1, hz, hz1⟩ := HBX.out
            clear hi hii hix hr
            go_wp2
            refine bodyPost_ret (v := .tuple #[.slice none 0 0, .agg #[.int .u32 0, .int .u32 0, .int .u32 0, .int .i64 0, .slice none 0 0], .int .i64 6]) (by simp [results, Try.results19, go_sem, q0, q1, q2, q3, q4, hz, hz1]) rfl ?_
            rw [HG.out]
            refine ⟨_, _, _, _, rfl, Own.nil _ _ _ _, PkOwn.zero _ _, ?_⟩
            repeat with_reducible refine Below.setCell ?_ (by simp) _
            with_reducible exact HBW.out
          have HG : Hid (follow ts ids kk (idx ids r).toNat ⟨s4, d4, f4, t4, l4⟩ (ws ++ [idx ids r]) = F) := by show _ = _; rw [← HFO.out]; exact (follow_move HNL.out HQ.out hr hi).symm
          obtain ⟨j, hj⟩ : ∃ j : Nat, idx ids r = (j : Int) := ⟨(idx ids r).toNat, by omega⟩
          rw [hj] at HG hix ⊢
          have hjk : j < k := by omega
          have d8 : decide ((j : Int) < 0) = false := by simp
          rw [Int.toNat_natCast] at HG
          obtain ⟨v2, w2, hrun, ho2, hg2, hor⟩ := Ints.append (P := Try.prog) (t := 25) (ty := 25) Try.underlying25 ints_info rfl (HOW.out.alloc _) (own_one wc wc.heap.size 0 rfl (by omega) (j : Int)).ints (by simp only [maxLen]; omega) (by omega) (by have := HBX.out.2.2.2.2.2; simp; omega)
          have HR := Lib.hid hrun
          have hbf : Below (w.heap.size + 2) wc w2 := ((Below.refl _ _).alloc (by have := HBX.out.2.2.2.2.2; omega) _).grown hg2 (by have := HBX.out.2.2.2.2.2; simp; omega) (fun g hg => (World.ownsRow.lt HOW.out g hg).1)
          have HBX2 := Lib.hid (HBX.out.far hbf)
          have HBW2 := Lib.hid (HBW.out.trans (hbf.mono (by omega)))
          have HOL2 := Lib.hid (World.ownsRow.kept (HOL.out.alloc _) hg2 HAP.out)
          have HAP2 := Lib.hid (apt_grown HOL.out HAP.out hor (by simp))
          have HOW2 := Lib.hid ho2
          have HMW2 : Hid (muW w.heap.size w2 = t4.toNat + n6) := muW_of HBX2.out.1.2.2.2.1 HBX2.out.1.2.2.2.2
          clear hrun ho2 hg2 hor hbf hj hix hi hr
          go_wp2_with (at_builtin; refine wpList_append_run rfl _ _ _ rfl rfl rfl HR.out ?_)
          go_roundw
          case rel => exact ⟨j, kk, ⟨s4, d4, f4, t4, l4⟩, A6, n6, c6, ws ++ [(j : Int)], m + 1, rfl, hjk, HMK.out, by omega, HG.out, HBX2.out, HOL2.out, HOW2.out, HAP2.out, HBW2.out, HW4.out, HF4.out, HT4.out⟩
          case measure => rw [HMW2.out, HMR.out]; exact HMM.out.1
end Go.Proofs.Ytkgfcekcjehkdaa
