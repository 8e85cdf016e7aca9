/- pvcopy.Attrs: attributes in new memory. -/
import Derived.Test.YtojgohgeagbkbaaBox
import Derived.Test.YtojgohgeagbkbaaAccR
import Derived.Deep.DeepCutAuto
namespace Go.Proofs.Ytojgohgeagbkbaa
open Go.RowKit

set_option linter.unusedVariables false
/-- a copied list of records: the row lies at a block of its own -/
def RLs (T : TypeId) (k : IntKind) (W : World) (base lo hi : Nat) (A : Option Addr) (n c : Nat) (ts : Path) : Prop :=
  (0 < n → ∃ g, A = some ⟨g, 0, none⟩ ∧ ROut T k W base lo hi g n c ts) ∧ n ≤ c ∧ c ≤ maxLen ∧ ts.length = n
section
variable {T : TypeId} {k : IntKind} {w w' : World} {base lo hi n c : Nat} {A : Option Addr} {ts : Path}
theorem RLs.below (h : RLs T k w base lo hi A n c ts) (hb : Below w.heap.size w w') : RLs T k w' base lo hi A n c ts := by
  refine ⟨fun hn => ?_, h.2⟩
  obtain ⟨g, e, hr⟩ := h.1 hn
  exact ⟨g, e, hr.below hb⟩
theorem RLs.other (h : RLs T k w base lo hi A n c ts) {b : Nat} (hs : Save b w w') (hb : lo ≤ b ∧ b < hi) (hg : hi ≤ base) : RLs T k w' base lo hi A n c ts := by
  refine ⟨fun hn => ?_, h.2⟩
  obtain ⟨g, e, hr⟩ := h.1 hn
  exact ⟨g, e, hr.other hs hb hg⟩
theorem RLs.recs (h : RLs T k w base lo hi A n c ts) : ∃ fs, Recs w w.heap.size 2 A n c SV.vals fs ∧ fs.map SV.key = ts ∧ ∀ t ∈ fs, Ints w w.heap.size k t.A t.n t.c t.xs := by
  rcases Nat.eq_zero_or_pos n with h0 | h0
  · subst h0
    obtain rfl : ts = [] := List.eq_nil_of_length_eq_zero h.2.2.2
    exact ⟨[], ⟨⟨h.2.1, h.2.2.1, rfl, fun hn => absurd hn (by omega)⟩, rfl⟩, rfl, fun t ht => by cases ht⟩
  · obtain ⟨g, rfl, hr⟩ := h.1 h0
    exact hr.recs
theorem RLs.start {fs : List SV} {B : Nat} {e : Ending} {w1 : World} (h : GivesRow T n fs w e w1) (hf : fs.map SV.key = ts) (hl : fs.length = n) (hi' : ∀ t ∈ fs, Ints w B k t.A t.n t.c t.xs) (hB : B = lo) (hlo : lo ≤ w.heap.size) (hb : base ≤ w.heap.size) (hlb : lo ≤ base) :
    ∃ A c, e = .returned (.slice A n c) ∧ RLs T k w1 base lo hi A n c ts ∧ Below w.heap.size w w1 := by
  subst hB
  obtain ⟨A, c, he, hr, hnc, hcm, hbel⟩ := h
  refine ⟨A, c, he, ⟨fun hn => ?_, hnc, hcm, by rw [← hf, List.length_map, hl]⟩, hbel⟩
  obtain ⟨g, e, ho⟩ := hr hn
  exact ⟨g, e, ROut.start (own_mono ho hb) hf (fun t ht => (hi' t ht).below (hbel.mono hlo)) hlb (Nat.le_trans hlo hbel.size)⟩
/-- below block B all is kept but the blocks lo .. hi - 1 -/
def Gap (B lo hi : Nat) (w V : World) : Prop := ∀ k, k < B → (k < lo ∨ hi ≤ k) → V.heap[k]? = w.heap[k]?
theorem Gap.refl (B lo hi : Nat) (w : World) : Gap B lo hi w w := fun _ _ _ => rfl
theorem Gap.trans {B lo hi : Nat} {a b c : World} (h : Gap B lo hi a b) (g : Gap B lo hi b c) : Gap B lo hi a c := fun k hk hl => (g k hk hl).trans (h k hk hl)
theorem Gap.of_below {B lo hi : Nat} {a b : World} (h : Below B a b) : Gap B lo hi a b := fun k hk _ => h.block k hk
theorem Gap.of_save {B lo hi g : Nat} {a b : World} (h : Save g a b) (hg : lo ≤ g ∧ g < hi) (hB : B ≤ a.heap.size) : Gap B lo hi a b := fun k hk _ => h.block k (by omega) (by omega)
theorem cells_gap {B size : Nat} {V : World} {vs : List Value} (h : Cells w B size A n c vs) (hv : Gap B lo hi w V) (ha : 0 < n → ∀ ad, A = some ad → ad.block < lo ∨ hi ≤ ad.block) : Cells V B size A n c vs := by
  refine ⟨h.1, h.2.1, h.2.2.1, fun hn => ?_⟩
  obtain ⟨b, o, e, hb, hc⟩ := h.2.2.2 hn
  refine ⟨b, o, e, hb, fun j hj => ?_⟩
  rw [← hc j hj]
  simp only [World.cell?, hv b hb (ha hn _ e)]
theorem RLs.gap (h : RLs T k w base lo hi A n c ts) (hg : hi ≤ base) {V : World} (hv : Gap w.heap.size lo hi w V) : ∃ fs, Recs V w.heap.size 2 A n c SV.vals fs ∧ fs.map SV.key = ts ∧ ∀ t ∈ fs, Ints V w.heap.size k t.A t.n t.c t.xs := by
  rcases Nat.eq_zero_or_pos n with h0 | h0
  · subst h0
    obtain rfl : ts = [] := List.eq_nil_of_length_eq_zero h.2.2.2
    exact ⟨[], ⟨⟨h.2.1, h.2.2.1, rfl, fun hn => absurd hn (by omega)⟩, rfl⟩, rfl, fun t ht => by cases ht⟩
  · obtain ⟨g, rfl, fs, h1, h2, h3⟩ := h.1 h0
    have hl : fs.length = n := by
      have := h1.1
      rw [flat_len SV.vals_len] at this
      omega
    have hgb := (World.ownsRow.lt h1 g rfl).1
    refine ⟨fs, ⟨cells_gap (Cells.of_own h1) hv fun hn ad e => ?_, hl⟩, h2, fun t ht => cells_gap (h3 t ht).1 hv fun hn ad e => ((h3 t ht).2 hn ad e).2⟩
    injection e with e
    subst e
    exact .inr (Nat.le_trans hg hgb)
/-- numbers that lie below lo or from hi on keep when another block between is written -/
theorem ints_gap {B m d b : Nat} {A : Option Addr} {xs : List Int} (h : Ints w B k A m d xs) (hB : B ≤ w.heap.size) (ha : Above hi A m) (hs : Save b w w') (hb : b < hi) : Ints w' w'.heap.size k A m d xs ∧ Above hi A m := by
  refine ⟨(ints_save h hs hB fun hn ad e => ?_).more (Nat.le_trans hB hs.size), ha⟩
  have := ha hn ad e
  omega
end
/-- what lies outside of the blocks lo .. hi - 1 -/
def Away (lo hi : Nat) (A : Option Addr) (n : Nat) : Prop := 0 < n → ∀ ad, A = some ad → ad.block < lo ∨ hi ≤ ad.block
def ARecs (k : IntKind) (w : World) (B lo hi : Nat) (A : Option Addr) (n c : Nat) (ts : Path) : Prop :=
  ∃ fs : List SV, Recs w B 2 A n c SV.vals fs ∧ fs.map SV.key = ts ∧ Away lo hi A n ∧ ∀ t ∈ fs, Ints w B k t.A t.n t.c t.xs ∧ Away lo hi t.A t.n
def AInts (w : World) (B lo hi : Nat) (A : Option Addr) (n c : Nat) (xs : List Int) : Prop := Ints w B .u32 A n c xs ∧ Away lo hi A n
section
variable {k : IntKind} {w V : World} {B B' lo hi n c : Nat} {A : Option Addr} {ts : Path} {xs : List Int}
theorem ARecs.gap (h : ARecs k w B lo hi A n c ts) (hv : Gap B lo hi w V) : ARecs k V B lo hi A n c ts := by
  obtain ⟨fs, h1, h2, h3, h4⟩ := h
  exact ⟨fs, ⟨cells_gap h1.1 hv h3, h1.2⟩, h2, h3, fun t ht => ⟨cells_gap (h4 t ht).1 hv (h4 t ht).2, (h4 t ht).2⟩⟩
theorem ARecs.more (h : ARecs k w B lo hi A n c ts) (hB : B ≤ B') : ARecs k w B' lo hi A n c ts := by
  obtain ⟨fs, h1, h2, h3, h4⟩ := h
  exact ⟨fs, h1.more hB, h2, h3, fun t ht => ⟨(h4 t ht).1.more hB, (h4 t ht).2⟩⟩
theorem ARecs.segs (h : ARecs .i64 w B lo hi A n c ts) : Segs w B A n c ts := by
  obtain ⟨fs, h1, h2, _, h4⟩ := h
  exact ⟨fs, h1, h2, fun t ht => (h4 t ht).1⟩
theorem ARecs.tlvs (h : ARecs .u8 w B lo hi A n c ts) : Tlvs w B A n c ts := by
  obtain ⟨fs, h1, h2, _, h4⟩ := h
  exact ⟨fs, h1, h2, fun t ht => (h4 t ht).1⟩
theorem ARecs.nil (k : IntKind) (w : World) (B lo hi : Nat) : ARecs k w B lo hi none 0 0 [] := ⟨[], ⟨Cells.nil _ _ _, rfl⟩, rfl, fun h => absurd h (by omega), fun t h => by cases h⟩
theorem AInts.gap (h : AInts w B lo hi A n c xs) (hv : Gap B lo hi w V) : AInts V B lo hi A n c xs := ⟨cells_gap h.1 hv h.2, h.2⟩
theorem AInts.more (h : AInts w B lo hi A n c xs) (hB : B ≤ B') : AInts w B' lo hi A n c xs := ⟨h.1.more hB, h.2⟩
theorem RLs.arecs {T : TypeId} {base : Nat} (h : RLs T k w base lo hi A n c ts) (hg : hi ≤ base) : ARecs k w w.heap.size lo hi A n c ts := by
  rcases Nat.eq_zero_or_pos n with h0 | h0
  · subst h0
    obtain rfl : ts = [] := List.eq_nil_of_length_eq_zero h.2.2.2
    exact ⟨[], ⟨⟨h.2.1, h.2.2.1, rfl, fun hn => absurd hn (by omega)⟩, rfl⟩, rfl, fun hn => absurd hn (by omega), fun t ht => by cases ht⟩
  · obtain ⟨g, rfl, fs, h1, h2, h3⟩ := h.1 h0
    have hl : fs.length = n := by
      have := h1.1
      rw [flat_len SV.vals_len] at this
      omega
    have hgb := (World.ownsRow.lt h1 g rfl).1
    refine ⟨fs, ⟨Cells.of_own h1, hl⟩, h2, fun hn ad e => ?_, fun t ht => ⟨(h3 t ht).1, fun hn ad e => ((h3 t ht).2 hn ad e).2⟩⟩
    injection e with e
    subst e
    exact .inr (Nat.le_trans hg hgb)
end
/-- the four lists, outside of a gap -/
structure ALists (w : World) (B lo hi : Nat) (pA cA kA uA : Option Addr) (pn pc cn cc kn kc un uc : Nat) (p : Path) (cm cl : List Int) (us : Path) : Prop where
  path : ARecs .i64 w B lo hi pA pn pc p
  comm : AInts w B lo hi cA cn cc cm
  clus : AInts w B lo hi kA kn kc cl
  unk : ARecs .u8 w B lo hi uA un uc us
  small : pn ≤ 1000000000 ∧ cn ≤ 1000000000 ∧ kn ≤ 1000000000 ∧ un ≤ 1000000000
section
variable {w V : World} {B B' lo hi : Nat} {pA cA kA uA : Option Addr} {pn pc cn cc kn kc un uc : Nat} {p us : Path} {cm cl : List Int}
theorem ALists.lists (h : ALists w B lo hi pA cA kA uA pn pc cn cc kn kc un uc p cm cl us) : Lists w B pA cA kA uA pn pc cn cc kn kc un uc p cm cl us := ⟨h.path.segs, h.comm.1, h.clus.1, h.unk.tlvs, h.small⟩
theorem ALists.gap (h : ALists w B lo hi pA cA kA uA pn pc cn cc kn kc un uc p cm cl us) (hv : Gap B lo hi w V) : ALists V B lo hi pA cA kA uA pn pc cn cc kn kc un uc p cm cl us := ⟨h.path.gap hv, h.comm.gap hv, h.clus.gap hv, h.unk.gap hv, h.small⟩
theorem ALists.more (h : ALists w B lo hi pA cA kA uA pn pc cn cc kn kc un uc p cm cl us) (hB : B ≤ B') : ALists w B' lo hi pA cA kA uA pn pc cn cc kn kc un uc p cm cl us := ⟨h.path.more hB, h.comm.more hB, h.clus.more hB, h.unk.more hB, h.small⟩
end
/-- the loops of the copy: the box holds cs, the result's block rs; the row reads as ts -/
def PcInv (T : TypeId) (k : IntKind) (w : World) (lo base : Nat) (cs rs : List Value) (R : World → Prop) (A : Option Addr) (n c : Nat) (ts : Path) (iv : Value) (W : World) : Prop :=
  ∃ j : Nat, j ≤ n ∧ iv = .int .i64 j ∧ Hid (Blk W w.heap.size 40 cs) ∧ Hid (Blk W (w.heap.size + 1) 40 rs) ∧
    Hid (RLs T k W base lo (w.heap.size + 2) A n c ts) ∧ Hid (R W) ∧ Hid (Below w.heap.size w W)
/-- what is done before the second loop: the path and the two lists, below block B -/
def PcDone (B lo hi : Nat) (pA cA kA : Option Addr) (pn pc cn cc kn kc : Nat) (p : Path) (cm cl : List Int) (W : World) : Prop := ARecs .i64 W B lo hi pA pn pc p ∧ AInts W B lo hi cA cn cc cm ∧ AInts W B lo hi kA kn kc cl
theorem PcDone.gap {w w' : World} {B lo hi : Nat} {pA cA kA : Option Addr} {pn pc cn cc kn kc : Nat} {p : Path} {cm cl : List Int} (h : PcDone B lo hi pA cA kA pn pc cn cc kn kc p cm cl w) (hb : Gap B lo hi w w') : PcDone B lo hi pA cA kA pn pc cn cc kn kc p cm cl w' := ⟨h.1.gap hb, h.2.1.gap hb, h.2.2.gap hb⟩
set_option linter.unusedSimpArgs false in
set_option maxRecDepth 100000 in
set_option maxHeartbeats 8000000 in
theorem pvcopy_any2 (og hop med pref aas aad ori : Int) (hm hp atm ha ho : Bool) (pA cA kA uA : Option Addr) (pn pc cn cc kn kc un uc : Nat) (p us : Path) (cm cl : List Int) (B0 : Nat) (w : World) (hL : Lists w B0 pA cA kA uA pn pc cn cc kn kc un uc p cm cl us) (hB0 : B0 ≤ w.heap.size) (hs : (flat p).length ≤ 1000000) (hu : (flat us).length ≤ 1000000) :
    Calls Try.prog 46 #[.agg #[.int .i64 og, .slice pA pn pc, .int .u32 hop, .bool hm, .int .i64 med, .bool hp, .int .i64 pref, .bool atm, .bool ha, .int .i64 aas, .int .u32 aad, .slice cA cn cc, .bool ho, .int .u32 ori, .slice kA kn kc, .slice uA un uc]] w fun e w' => ∃ (pA' cA' kA' uA' : Option Addr) (pc' cc' kc' uc' : Nat), e = .returned (.agg #[.int .i64 og, .slice pA' pn pc', .int .u32 hop, .bool hm, .int .i64 med, .bool hp, .int .i64 pref, .bool atm, .bool ha, .int .i64 aas, .int .u32 aad, .slice cA' cn cc', .bool ho, .int .u32 ori, .slice kA' kn kc', .slice uA' un uc']) ∧
      ALists w' w'.heap.size B0 (w.heap.size + 2) pA' cA' kA' uA' pn pc' cn cc' kn kc' un uc' p cm cl us ∧ Below w.heap.size w w' ∧ w.heap.size + 2 ≤ w'.heap.size := by
  have HL := Lib.hid hL
  obtain ⟨hsm1, hsm2, hsm3, hsm4⟩ := hL.small
  obtain ⟨fs, hrec, hkey, hints⟩ := hL.path
  have hfl := hrec.2
  obtain ⟨w1, hw1⟩ : ∃ w1, (w.alloc (.cells #[.int .i64 og, .slice pA pn pc, .int .u32 hop, .bool hm, .int .i64 med, .bool hp, .int .i64 pref, .bool atm, .bool ha, .int .i64 aas, .int .u32 aad, .slice cA cn cc, .bool ho, .int .u32 ori, .slice kA kn kc, .slice uA un uc] 40)).alloc (.cells #[.int .i64 0, .slice none 0 0, .int .u32 0, .bool false, .int .i64 0, .bool false, .int .i64 0, .bool false, .bool false, .int .i64 0, .int .u32 0, .slice none 0 0, .bool false, .int .u32 0, .slice none 0 0, .slice none 0 0] 40) = w1 := ⟨_, rfl⟩
  have hbA : Blk w1 w.heap.size 40 [.int .i64 og, .slice pA pn pc, .int .u32 hop, .bool hm, .int .i64 med, .bool hp, .int .i64 pref, .bool atm, .bool ha, .int .i64 aas, .int .u32 aad, .slice cA cn cc, .bool ho, .int .u32 ori, .slice kA kn kc, .slice uA un uc] := by rw [← hw1]; exact (Blk.new w _ _).keep (belowA _ _)
  have hbR : Blk w1 (w.heap.size + 1) 40 [.int .i64 0, .slice none 0 0, .int .u32 0, .bool false, .int .i64 0, .bool false, .int .i64 0, .bool false, .bool false, .int .i64 0, .int .u32 0, .slice none 0 0, .bool false, .int .u32 0, .slice none 0 0, .slice none 0 0] := by rw [← hw1]; exact Blk.new2 w _ _ _
  have hb1 : Below w.heap.size w w1 := by rw [← hw1]; exact below3 (belowA _ _) (belowA _ _)
  have hz1 : w.heap.size + 2 ≤ w1.heap.size := by rw [← hw1]; simp
  have HB1 := Lib.hid hb1
  have HKA := Lib.hid hbA
  have HKR := Lib.hid hbR
  have hlt : w.heap.size < w1.heap.size := by omega
  have a1 := hbA.cell 1
  simp only [List.getElem?_cons_zero, List.getElem?_cons_succ] at a1
  have HC := Lib.hid (cloneSegs_any pA pn pc B0 fs w1 (hrec.below (hb1.mono hB0)) (by omega) hsm1)
  have HI1 := Lib.hid fun t ht => (hints t ht).below (hb1.mono hB0)
  clear hL hrec hints hbA hbR hb1
  go_enter Try.func46, Try.ntmps46
  go_wp2_with fail
  refine HC.out.mono ?_
  intro e w2 hg
  obtain ⟨A2, c2, rfl, hr2, hb2⟩ := RLs.start (lo := B0) (hi := w.heap.size + 2) (base := w.heap.size + 2) hg hkey hfl HI1.out rfl (by omega) hz1 (by omega)
  clear hg HC HI1 hw1 a1
  have hka2 := HKA.out.keep hb2
  have hz2 := hb2.size
  have hlt2 : w.heap.size < w2.heap.size := by omega
  have fz := hka2.frozen 1
  have a1 := hka2.cell 1
  simp only [List.getElem?_cons_zero, List.getElem?_cons_succ] at a1
  obtain ⟨w3, hw3⟩ : ∃ w3, w2.setCell ⟨w.heap.size, 1, none⟩ (.slice A2 pn c2) = w3 := ⟨_, rfl⟩
  have hs3 : Save w.heap.size w2 w3 := by rw [← hw3]; exact Save.set
  have hka3 : Blk w3 w.heap.size 40 [.int .i64 og, .slice A2 pn c2, .int .u32 hop, .bool hm, .int .i64 med, .bool hp, .int .i64 pref, .bool atm, .bool ha, .int .i64 aas, .int .u32 aad, .slice cA cn cc, .bool ho, .int .u32 ori, .slice kA kn kc, .slice uA un uc] := by rw [← hw3]; exact hka2.set 1 _
  have HKA3 := Lib.hid hka3
  have HKR3 := Lib.hid ((HKR.out.keep hb2).save hs3 (by omega))
  have HR3 := Lib.hid (hr2.other hs3 ⟨hB0, by omega⟩ (Nat.le_refl _))
  have HB3 := Lib.hid (((HB1.out.trans (hb2.mono HB1.out.size)).trans (hs3.below (Nat.le_refl _) (by omega))))
  have a1' := hka3.cell 1
  simp only [List.getElem?_cons_zero, List.getElem?_cons_succ] at a1'
  have hlt3 : w.heap.size < w3.heap.size := hka3.lt
  clear hka2 hka3 hs3 hr2 HKA HKR HB1 hb2
  go_wp2_with fail
  clear hw3 a1 a1' fz
  have HP1 : Hid (PcInv 75 .i64 w B0 (w.heap.size + 2) [.int .i64 og, .slice A2 pn c2, .int .u32 hop, .bool hm, .int .i64 med, .bool hp, .int .i64 pref, .bool atm, .bool ha, .int .i64 aas, .int .u32 aad, .slice cA cn cc, .bool ho, .int .u32 ori, .slice kA kn kc, .slice uA un uc] [.int .i64 0, .slice none 0 0, .int .u32 0, .bool false, .int .i64 0, .bool false, .int .i64 0, .bool false, .bool false, .int .i64 0, .int .u32 0, .slice none 0 0, .bool false, .int .u32 0, .slice none 0 0, .slice none 0 0] (fun _ => True) A2 pn c2 p (.int .i64 0) w3) := ⟨0, Nat.zero_le _, rfl, HKA3, HKR3, HR3, trivial, HB3⟩
  clear HKA3 HKR3 HR3 HB3
  go_loopw [12] (fun iv wr => PcInv 75 .i64 w B0 (w.heap.size + 2) [.int .i64 og, .slice A2 pn c2, .int .u32 hop, .bool hm, .int .i64 med, .bool hp, .int .i64 pref, .bool atm, .bool ha, .int .i64 aas, .int .u32 aad, .slice cA cn cc, .bool ho, .int .u32 ori, .slice kA kn kc, .slice uA un uc] [.int .i64 0, .slice none 0 0, .int .u32 0, .bool false, .int .i64 0, .bool false, .int .i64 0, .bool false, .bool false, .int .i64 0, .int .u32 0, .slice none 0 0, .bool false, .int .u32 0, .slice none 0 0, .slice none 0 0] (fun _ => True) A2 pn c2 p iv wr) (fun iv _ => pn - (intOf iv).toNat)
  case atStart => exact HP1.out
  case round =>
    obtain ⟨j, hj, rfl, hka, hkr, hr, _, hb⟩ := hrel
    clear HP1 hlt hlt2 hlt3
    have hltr : w.heap.size < wr.heap.size := hka.out.lt
    have a1 := hka.out.cell 1
    simp only [List.getElem?_cons_zero, List.getElem?_cons_succ] at a1
    by_cases hlt : j < pn
    case neg =>
      obtain rfl : j = pn := by omega
      obtain ⟨wo, rfl⟩ : ∃ wo : World, wo = wr := ⟨_, rfl⟩
      have a11 := hka.out.cell 11
      simp only [List.getElem?_cons_zero, List.getElem?_cons_succ] at a11
      have HC := Lib.hid (cloneU32_any cA cn cc B0 cm wo (HL.out.comm.below (hb.out.mono hB0)) (Nat.le_trans hB0 hb.out.size) (by omega))
      go_wp2_with fail
      refine HC.out.mono ?_
      rintro e wa ⟨C3, d3, rfl, hc3, hab3, hba⟩
      clear HC a1 a11
      have hkaa := hka.out.keep hba
      have fz := hkaa.frozen 11
      have a11 := hkaa.cell 11
      have a14 := hkaa.cell 14
      simp only [List.getElem?_cons_zero, List.getElem?_cons_succ] at a11 a14
      have hlta : w.heap.size < wa.heap.size := hkaa.lt
      obtain ⟨wb, hwb⟩ : ∃ wb, wa.setCell ⟨w.heap.size, 11, none⟩ (.slice C3 cn d3) = wb := ⟨_, rfl⟩
      have hsb : Save w.heap.size wa wb := by rw [← hwb]; exact Save.set
      have HKAB : Hid (Blk wb w.heap.size 40 [.int .i64 og, .slice A2 j c2, .int .u32 hop, .bool hm, .int .i64 med, .bool hp, .int .i64 pref, .bool atm, .bool ha, .int .i64 aas, .int .u32 aad, .slice C3 cn d3, .bool ho, .int .u32 ori, .slice kA kn kc, .slice uA un uc]) := by
        show Blk _ _ _ _
        rw [← hwb]
        exact hkaa.set 11 _
      have hzr := hb.out.size
      have HKRB := Lib.hid ((hkr.out.keep hba).save hsb (by omega))
      have HRB := Lib.hid ((hr.out.below hba).other hsb ⟨hB0, by omega⟩ (Nat.le_refl _))
      have HC3 := Lib.hid (ints_gap hc3 (Nat.le_refl _) (fun hn ad e => Nat.le_trans hkr.out.lt (hab3 hn ad e)) hsb (by omega))
      have HBB := Lib.hid ((hb.out.trans (hba.mono hb.out.size)).trans (hsb.below (Nat.le_refl _) (by omega)))
      have hltb : w.heap.size < wb.heap.size := HKAB.out.lt
      have b14 := HKAB.out.cell 14
      simp only [List.getElem?_cons_zero, List.getElem?_cons_succ] at b14
      have HC := Lib.hid (cloneU32_any kA kn kc B0 cl wb (HL.out.clus.below (HBB.out.mono hB0)) (Nat.le_trans hB0 HBB.out.size) (by omega))
      clear hka hkr hr hb hc3 hab3 hba hkaa hsb hzr a14
      go_wp2_with fail
      refine HC.out.mono ?_
      rintro e wc ⟨K4, d4, rfl, hk4, hab4, hbc⟩
      clear HC b14 a11 hwb fz hlta
      have hkac := HKAB.out.keep hbc
      have fz := hkac.frozen 14
      have a14 := hkac.cell 14
      simp only [List.getElem?_cons_zero, List.getElem?_cons_succ] at a14
      have hltc : w.heap.size < wc.heap.size := hkac.lt
      obtain ⟨wd, hwd⟩ : ∃ wd, wc.setCell ⟨w.heap.size, 14, none⟩ (.slice K4 kn d4) = wd := ⟨_, rfl⟩
      have hsd : Save w.heap.size wc wd := by rw [← hwd]; exact Save.set
      have HKAD : Hid (Blk wd w.heap.size 40 [.int .i64 og, .slice A2 j c2, .int .u32 hop, .bool hm, .int .i64 med, .bool hp, .int .i64 pref, .bool atm, .bool ha, .int .i64 aas, .int .u32 aad, .slice C3 cn d3, .bool ho, .int .u32 ori, .slice K4 kn d4, .slice uA un uc]) := by
        show Blk _ _ _ _
        rw [← hwd]
        exact hkac.set 14 _
      have hzb := HBB.out.size
      have HKRD := Lib.hid ((HKRB.out.keep hbc).save hsd (by omega))
      have HRD := Lib.hid ((HRB.out.below hbc).other hsd ⟨hB0, by omega⟩ (Nat.le_refl _))
      have HC3D : Hid (Ints wd wd.heap.size .u32 C3 cn d3 cm ∧ Above (w.heap.size + 2) C3 cn) := ⟨(ints_save (HC3.out.1.below hbc) hsd hbc.size (fun hn ad e => by have := HC3.out.2 hn ad e; omega)).more (Nat.le_trans hbc.size hsd.size), HC3.out.2⟩
      have HK4D := Lib.hid (ints_gap hk4 (Nat.le_refl _) (fun hn ad e => Nat.le_trans HKRB.out.lt (hab4 hn ad e)) hsd (by omega))
      have HBD := Lib.hid ((HBB.out.trans (hbc.mono HBB.out.size)).trans (hsd.below (Nat.le_refl _) (by omega)))
      have hltd : w.heap.size < wd.heap.size := HKAD.out.lt
      have b15 := HKAD.out.cell 15
      simp only [List.getElem?_cons_zero, List.getElem?_cons_succ] at b15
      obtain ⟨gs, hgrec, hgkey, hgints⟩ := HL.out.unk
      have hgl := hgrec.2
      have HC := Lib.hid (cloneTlvs_any uA un uc B0 gs wd (hgrec.below (HBD.out.mono hB0)) (Nat.le_trans hB0 HBD.out.size) hsm4)
      have HGI := Lib.hid fun t ht => (hgints t ht).below (HBD.out.mono hB0)
      clear HKAB HKRB HRB HC3 HBB hltb hk4 hab4 hbc hkac hsd hzb hgrec hgints
      go_wp2_with fail
      refine HC.out.mono ?_
      intro e we hg
      obtain ⟨U5, u5, rfl, hr5, hbe⟩ := RLs.start (lo := B0) (hi := w.heap.size + 2) (base := wd.heap.size) hg hgkey hgl HGI.out rfl (Nat.le_trans hB0 HBD.out.size) (Nat.le_refl _) (Nat.le_trans hB0 HBD.out.size)
      have hzd : w.heap.size + 2 ≤ wd.heap.size := HKRD.out.lt
      clear hg HC HGI b15 a14 hwd fz hltc
      have hkae := HKAD.out.keep hbe
      have fz := hkae.frozen 15
      have a15 := hkae.cell 15
      simp only [List.getElem?_cons_zero, List.getElem?_cons_succ] at a15
      have hlte : w.heap.size < we.heap.size := hkae.lt
      obtain ⟨wf, hwf⟩ : ∃ wf, we.setCell ⟨w.heap.size, 15, none⟩ (.slice U5 un u5) = wf := ⟨_, rfl⟩
      have hsf : Save w.heap.size we wf := by rw [← hwf]; exact Save.set
      have hkaf : Blk wf w.heap.size 40 [.int .i64 og, .slice A2 j c2, .int .u32 hop, .bool hm, .int .i64 med, .bool hp, .int .i64 pref, .bool atm, .bool ha, .int .i64 aas, .int .u32 aad, .slice C3 cn d3, .bool ho, .int .u32 ori, .slice K4 kn d4, .slice U5 un u5] := by
        rw [← hwf]
        exact hkae.set 15 _
      have hgf : Gap wd.heap.size B0 (w.heap.size + 2) wd wf := (Gap.of_below hbe).trans (Gap.of_save hsf ⟨hB0, by omega⟩ hbe.size)
      have hpd : PcDone wd.heap.size B0 (w.heap.size + 2) A2 C3 K4 j c2 cn d3 kn d4 p cm cl wf := ⟨(HRD.out.arecs (Nat.le_refl _)).gap hgf, ⟨cells_gap HC3D.out.1 hgf fun hn ad e => .inr (HC3D.out.2 hn ad e), fun hn ad e => .inr (HC3D.out.2 hn ad e)⟩, ⟨cells_gap HK4D.out.1 hgf fun hn ad e => .inr (HK4D.out.2 hn ad e), fun hn ad e => .inr (HK4D.out.2 hn ad e)⟩⟩
      have HP2 : Hid (PcInv 88 .u8 w B0 wd.heap.size [.int .i64 og, .slice A2 j c2, .int .u32 hop, .bool hm, .int .i64 med, .bool hp, .int .i64 pref, .bool atm, .bool ha, .int .i64 aas, .int .u32 aad, .slice C3 cn d3, .bool ho, .int .u32 ori, .slice K4 kn d4, .slice U5 un u5] [.int .i64 0, .slice none 0 0, .int .u32 0, .bool false, .int .i64 0, .bool false, .int .i64 0, .bool false, .bool false, .int .i64 0, .int .u32 0, .slice none 0 0, .bool false, .int .u32 0, .slice none 0 0, .slice none 0 0] (fun V => PcDone wd.heap.size B0 (w.heap.size + 2) A2 C3 K4 j c2 cn d3 kn d4 p cm cl V ∧ wd.heap.size ≤ V.heap.size) U5 un u5 us (.int .i64 0) wf) :=
        ⟨0, Nat.zero_le _, rfl, hkaf, (HKRD.out.keep hbe).save hsf (by omega), hr5.other hsf ⟨hB0, by omega⟩ hzd, ⟨hpd, Nat.le_trans hbe.size hsf.size⟩, (HBD.out.trans (hbe.mono HBD.out.size)).trans (hsf.below (Nat.le_refl _) (by omega))⟩
      have c15 := hkaf.cell 15
      simp only [List.getElem?_cons_zero, List.getElem?_cons_succ] at c15
      have hltf : w.heap.size < wf.heap.size := hkaf.lt
      clear hkae hsf hkaf hpd hgf HKAD HKRD HRD HC3D HK4D HBD hltd hbe hr5
      go_wp2_with fail
      clear a15 c15 hwf fz hlte hltf
      go_loopw [43] (fun iv wr => PcInv 88 .u8 w B0 wd.heap.size [.int .i64 og, .slice A2 j c2, .int .u32 hop, .bool hm, .int .i64 med, .bool hp, .int .i64 pref, .bool atm, .bool ha, .int .i64 aas, .int .u32 aad, .slice C3 cn d3, .bool ho, .int .u32 ori, .slice K4 kn d4, .slice U5 un u5] [.int .i64 0, .slice none 0 0, .int .u32 0, .bool false, .int .i64 0, .bool false, .int .i64 0, .bool false, .bool false, .int .i64 0, .int .u32 0, .slice none 0 0, .bool false, .int .u32 0, .slice none 0 0, .slice none 0 0] (fun V => PcDone wd.heap.size B0 (w.heap.size + 2) A2 C3 K4 j c2 cn d3 kn d4 p cm cl V ∧ wd.heap.size ≤ V.heap.size) U5 un u5 us iv wr) (fun iv _ => un - (intOf iv).toNat)
      case atStart => exact HP2.out
      case round =>
        obtain ⟨i, hi, rfl, hka, hkr, hr, hpd, hb⟩ := hrel
        clear HP2 hj hlt
        have hltr : w.heap.size < wr.heap.size := hka.out.lt
        have a15 := hka.out.cell 15
        simp only [List.getElem?_cons_zero, List.getElem?_cons_succ] at a15
        by_cases hlt : i < un
        case neg =>
          obtain rfl : i = un := by omega
          obtain ⟨wz, hwz⟩ : ∃ wz, wr.setRow (w.heap.size + 1) #[.int .i64 og, .slice A2 j c2, .int .u32 hop, .bool hm, .int .i64 med, .bool hp, .int .i64 pref, .bool atm, .bool ha, .int .i64 aas, .int .u32 aad, .slice C3 cn d3, .bool ho, .int .u32 ori, .slice K4 kn d4, .slice U5 i u5] = wz := ⟨_, rfl⟩
          have hsz : Save (w.heap.size + 1) wr wz := by rw [← hwz]; exact Save.row _ _ _
          have HKZ : Hid (Blk wz (w.heap.size + 1) 40 [.int .i64 og, .slice A2 j c2, .int .u32 hop, .bool hm, .int .i64 med, .bool hp, .int .i64 pref, .bool atm, .bool ha, .int .i64 aas, .int .u32 aad, .slice C3 cn d3, .bool ho, .int .u32 ori, .slice K4 kn d4, .slice U5 i u5]) := by
            show Blk _ _ _ _
            rw [← hwz]
            exact hkr.out.row _
          have HZ : Hid (ALists wz wz.heap.size B0 (w.heap.size + 2) A2 C3 K4 U5 j c2 cn d3 kn d4 i u5 p cm cl us ∧ Below w.heap.size w wz ∧ w.heap.size + 2 ≤ wz.heap.size) := by
            have hzr := hb.out.size
            obtain ⟨q1, q2, q3⟩ := hpd.out.1.gap (Gap.of_save hsz ⟨by omega, by omega⟩ hpd.out.2)
            have q4 := (hr.out.other hsz ⟨by omega, by omega⟩ hzd).arecs hzd
            exact ⟨⟨q1.more (Nat.le_trans hpd.out.2 hsz.size), q2.more (Nat.le_trans hpd.out.2 hsz.size), q3.more (Nat.le_trans hpd.out.2 hsz.size), q4, hsm1, hsm2, hsm3, hsm4⟩, hb.out.trans (hsz.below (by omega) hzr), HKZ.out.lt⟩
          go_wp2_with (first | (refine wpList_load_blk rfl 40 _ rfl w.heap.size rfl hka.out _ Try.underlying40 rfl (by kernel_rfl) ?_) | (refine wpList_store_blk rfl 40 _ _ rfl (w.heap.size + 1) rfl rfl hkr.out (by kernel_rfl) rfl (by kernel_rfl) ?_))
          refine bodyPost_ret (v := .agg #[.int .i64 og, .slice A2 j c2, .int .u32 hop, .bool hm, .int .i64 med, .bool hp, .int .i64 pref, .bool atm, .bool ha, .int .i64 aas, .int .u32 aad, .slice C3 cn d3, .bool ho, .int .u32 ori, .slice K4 kn d4, .slice U5 i u5]) (results_cell_row rfl _ _ (w.heap.size + 1) _ _ (0, 0) _ rfl HKZ.out Try.underlying40 rfl (by kernel_rfl)) rfl ⟨A2, C3, K4, U5, c2, d3, d4, u5, rfl, HZ.out⟩
        have hlti : (i : Int) < (un : Int) := by omega
        obtain ⟨g, rfl, hro⟩ := hr.out.1 (by omega)
        obtain ⟨t, g0, g1, ht, hii⟩ := hro.get hlt
        obtain ⟨y, tA, tn, tc, xs⟩ := t
        dsimp only at g0 g1 ht hii
        have fz := hro.frozen (i * 2 + 1)
        have hgb := hro.gb
        have hzr2 : wd.heap.size ≤ wr.heap.size := hpd.out.2
        have hts : tn ≤ 17592186044416 := by
          have h1 := seg_le ht.out
          have h2 : xs.length = tn := hii.out.len
          dsimp only at h1
          omega
        go_upto_region 13 with fail
        have HS : Hid (∀ V, Below wr.heap.size wr V → V.cell? ⟨w.heap.size, 15, none⟩ = some (.slice (some ⟨g, 0, none⟩) un u5)) := fun V h => (hka.out.keep h).cell 15
        have HC0 : Hid (Below wr.heap.size wr wr.drew) := (Below.refl _ _).drew
        refine wp_region_noPanic ?_
        refine wp_region_held_drew (S := fun V => V.cell? ⟨w.heap.size, 15, none⟩ = some (.slice (some ⟨g, 0, none⟩) un u5)) (by kernel_rfl) (HS.out _ HC0.out) (fun hHeld => ?_)
        refine take_in (i := 0) _ (some 46) (by kernel_rfl) (by kernel_rfl) (by kernel_rfl) (by kernel_rfl) (fun _ _ _ h => h) (by rfl) (fun o ho w hSw => by cases ho; (try dsimp only at hSw); (try go_split_ands); go_simp; (try with_reducible rfl)) hHeld ?_
        try simp only [Act.put, List.setIfInBounds_toArray, List.set_cons_zero, List.set_cons_succ]
        refine take_in (i := 1) _ (some 47) (by kernel_rfl) (by kernel_rfl) (by kernel_rfl) (by kernel_rfl) (fun _ _ _ h => h) (by rfl) (fun o ho w hSw => by cases ho; (try dsimp only at hSw); (try go_split_ands); go_simp; (try with_reducible rfl)) hHeld ?_
        try simp only [Act.put, List.setIfInBounds_toArray, List.set_cons_zero, List.set_cons_succ]
        refine take_in (i := 2) _ (some 48) (by kernel_rfl) (by kernel_rfl) (by kernel_rfl) (by kernel_rfl) (fun _ _ _ h => h) (by rfl) (fun o ho w hSw => by cases ho; (try dsimp only at hSw); (try go_split_ands); go_simp; (try with_reducible rfl)) hHeld ?_
        try simp only [Act.put, List.setIfInBounds_toArray, List.set_cons_zero, List.set_cons_succ]
        refine take_in (i := 3) _ (some 49) (by kernel_rfl) (by kernel_rfl) (by kernel_rfl) (by kernel_rfl) (fun _ _ _ h => h) (by rfl) (fun o ho w hSw => by cases ho; (try dsimp only at hSw); (try go_split_ands); go_simp; (try with_reducible rfl)) hHeld ?_
        try simp only [Act.put, List.setIfInBounds_toArray, List.set_cons_zero, List.set_cons_succ]
        refine take_in (i := 4) _ (some 50) (by kernel_rfl) (by kernel_rfl) (by kernel_rfl) (by kernel_rfl) (fun _ _ _ h => h) (by rfl) (fun o ho w hSw => by cases ho; (try dsimp only at hSw); (try go_split_ands); go_simp; (try with_reducible rfl)) hHeld ?_
        try simp only [Act.put, List.setIfInBounds_toArray, List.set_cons_zero, List.set_cons_succ]
        refine take_in (i := 5) _ (some 51) (by kernel_rfl) (by kernel_rfl) (by kernel_rfl) (by kernel_rfl) (fun _ _ _ h => h) (by rfl) (fun o ho w hSw => by cases ho; (try dsimp only at hSw); (try go_split_ands); go_simp; (try with_reducible rfl)) hHeld ?_
        try simp only [Act.put, List.setIfInBounds_toArray, List.set_cons_zero, List.set_cons_succ]
        refine take_in (i := 6) _ (some 52) (by kernel_rfl) (by kernel_rfl) (by kernel_rfl) (by kernel_rfl) (fun _ _ _ h => h) (by rfl) (fun o ho w hSw => by cases ho; (try dsimp only at hSw); (try go_split_ands); go_simp; (try with_reducible rfl)) hHeld ?_
        try simp only [Act.put, List.setIfInBounds_toArray, List.set_cons_zero, List.set_cons_succ]
        refine take_in (i := 7) _ (some 53) (by kernel_rfl) (by kernel_rfl) (by kernel_rfl) (by kernel_rfl) (fun _ _ _ h => h) (by rfl) (fun o ho w hSw => by cases ho; (try dsimp only at hSw); (try go_split_ands); go_simp; (try with_reducible rfl)) hHeld ?_
        try simp only [Act.put, List.setIfInBounds_toArray, List.set_cons_zero, List.set_cons_succ]
        refine wpAnyH_ready (rs := [8]) (by kernel_rfl) (by simp) ?_
        refine AllReadyH.cons (o := _) rfl (fun K hK => ?_) AllReadyH.nil
        go_simp
        refine hK.out _ _ (HS.out _ HC0.out) (fun hHeld => ?_)
        clear hK K
        try simp only [Act.put, List.setIfInBounds_toArray, List.set_cons_zero, List.set_cons_succ]
        refine wpAnyH_ready (rs := [9]) (by kernel_rfl) (by simp) ?_
        refine AllReadyH.cons (o := _) rfl (fun K hK => ?_) AllReadyH.nil
        go_simp
        go_at_call 82
        with_reducible refine (cloneBytes_any _ _ _ _ _ _ (hii.out.below HC0.out) HC0.out.size hts).mono ?_
        rintro e wX ⟨A5, c5, rfl, hi5, hab5, hb5⟩
        have hbX := HC0.out.trans (hb5.mono HC0.out.size)
        have HCX := Lib.hid hbX
        have hroX := hro.below hbX
        have fz := hroX.frozen (i * 2 + 1)
        obtain ⟨t2, g0, g1, ht2, hi2⟩ := hroX.get hlt
        have hltg : g < wX.heap.size := hroX.gb.2
        obtain ⟨wY, hwY⟩ : ∃ wY, wX.setCell ⟨g, i * 2 + 1, none⟩ (.slice A5 tn c5) = wY := ⟨_, rfl⟩
        have hsY : Save g wX wY := by rw [← hwY]; exact Save.set
        have hroY := hroX.set ht.out hi5 fun hn ad e => ⟨by have := hab5 hn ad e; have := HC0.out.size; omega, by have := hab5 hn ad e; have := HC0.out.size; omega⟩
        rw [hwY] at hroY
        have HROY := Lib.hid hroY
        have HKY := Lib.hid ((hka.out.keep hbX).save hsY (by omega))
        have HKRY := Lib.hid ((hkr.out.keep hbX).save hsY (by omega))
        have HBY := Lib.hid ((hb.out.trans (hbX.mono hb.out.size)).trans (hsY.below (by omega) (by omega)))
        have hwy : wd.heap.size ≤ wY.heap.size := Nat.le_trans hzr2 (Nat.le_trans hbX.size hsY.size)
        have HPDY : Hid (PcDone wd.heap.size B0 (w.heap.size + 2) A2 C3 K4 j c2 cn d3 kn d4 p cm cl wY) := (hpd.out.1.gap (Gap.of_below (hbX.mono hzr2))).gap (Gap.of_below (hsY.below hgb.1 (by have := hbX.size; omega)))
        have HSY : Hid (wY.cell? ⟨w.heap.size, 15, none⟩ = some (.slice (some ⟨g, 0, none⟩) un u5)) := HKY.out.cell 15
        clear hi5 hab5 hb5 hbX hroX hsY hroY g0 ht2 hi2
        refine hK.out _ _ (HS.out _ HCX.out) (fun hHeld => ?_)
        clear hK K
        try simp only [Act.put, List.setIfInBounds_toArray, List.set_cons_zero, List.set_cons_succ]
        refine take_in (i := 10) _ (some 56) (by kernel_rfl) (by kernel_rfl) (by kernel_rfl) (by kernel_rfl) (fun _ _ _ h => h) (by rfl) (fun o ho w hSw => by cases ho; (try dsimp only at hSw); (try go_split_ands); go_simp; (try with_reducible rfl)) hHeld ?_
        try simp only [Act.put, List.setIfInBounds_toArray, List.set_cons_zero, List.set_cons_succ]
        refine take_in (i := 11) _ (some 57) (by kernel_rfl) (by kernel_rfl) (by kernel_rfl) (by kernel_rfl) (fun _ _ _ h => h) (by rfl) (fun o ho w hSw => by cases ho; (try dsimp only at hSw); (try go_split_ands); go_simp; (try with_reducible rfl)) hHeld ?_
        try simp only [Act.put, List.setIfInBounds_toArray, List.set_cons_zero, List.set_cons_succ]
        refine wpAnyH_ready (rs := [12]) (by kernel_rfl) (by simp) ?_
        refine AllReadyH.cons (o := _) rfl (fun K hK => ?_) AllReadyH.nil
        go_simp
        refine hK.out _ _ HSY.out (fun hHeld => ?_)
        clear hK K
        try simp only [Act.put, List.setIfInBounds_toArray, List.set_cons_zero, List.set_cons_succ]
        refine wpAnyH_done (by kernel_rfl) ?_ _
        refine NoPanic.normal ?_
        go_wp2_with fail
        clear HS HSY HC0 HCX hHeld hwY g1 fz
        go_roundw
        case rel => exact ⟨i + 1, by omega, by go_num, HKY, HKRY, ⟨fun _ => ⟨g, rfl, HROY.out⟩, hr.out.2⟩, ⟨HPDY.out, hwy⟩, HBY⟩
        case measure => simp [intOf]; omega
    have hlti : (j : Int) < (pn : Int) := by omega
    obtain ⟨g, rfl, hro⟩ := hr.out.1 (by omega)
    obtain ⟨t, g0, g1, ht, hi⟩ := hro.get hlt
    obtain ⟨y, tA, tn, tc, xs⟩ := t
    dsimp only at g0 g1 ht hi
    have fz := hro.frozen (j * 2 + 1)
    have hgb := hro.gb
    have hts : tn ≤ 17592186044416 := by
      have h1 := seg_le ht.out
      have h2 : xs.length = tn := hi.out.len
      dsimp only at h1
      omega
    go_upto_region 5 with fail
    have HS : Hid (∀ V, Below wr.heap.size wr V → V.cell? ⟨w.heap.size, 1, none⟩ = some (.slice (some ⟨g, 0, none⟩) pn c2)) := fun V h => (hka.out.keep h).cell 1
    have HC0 : Hid (Below wr.heap.size wr wr.drew) := (Below.refl _ _).drew
    refine wp_region_noPanic ?_
    refine wp_region_held_drew (S := fun V => V.cell? ⟨w.heap.size, 1, none⟩ = some (.slice (some ⟨g, 0, none⟩) pn c2)) (by kernel_rfl) (HS.out _ HC0.out) (fun hHeld => ?_)
    refine take_in (i := 0) _ (some 15) (by kernel_rfl) (by kernel_rfl) (by kernel_rfl) (by kernel_rfl) (fun _ _ _ h => h) (by rfl) (fun o ho w hSw => by cases ho; (try dsimp only at hSw); (try go_split_ands); go_simp; (try with_reducible rfl)) hHeld ?_
    try simp only [Act.put, List.setIfInBounds_toArray, List.set_cons_zero, List.set_cons_succ]
    refine take_in (i := 1) _ (some 16) (by kernel_rfl) (by kernel_rfl) (by kernel_rfl) (by kernel_rfl) (fun _ _ _ h => h) (by rfl) (fun o ho w hSw => by cases ho; (try dsimp only at hSw); (try go_split_ands); go_simp; (try with_reducible rfl)) hHeld ?_
    try simp only [Act.put, List.setIfInBounds_toArray, List.set_cons_zero, List.set_cons_succ]
    refine take_in (i := 2) _ (some 17) (by kernel_rfl) (by kernel_rfl) (by kernel_rfl) (by kernel_rfl) (fun _ _ _ h => h) (by rfl) (fun o ho w hSw => by cases ho; (try dsimp only at hSw); (try go_split_ands); go_simp; (try with_reducible rfl)) hHeld ?_
    try simp only [Act.put, List.setIfInBounds_toArray, List.set_cons_zero, List.set_cons_succ]
    refine take_in (i := 3) _ (some 18) (by kernel_rfl) (by kernel_rfl) (by kernel_rfl) (by kernel_rfl) (fun _ _ _ h => h) (by rfl) (fun o ho w hSw => by cases ho; (try dsimp only at hSw); (try go_split_ands); go_simp; (try with_reducible rfl)) hHeld ?_
    try simp only [Act.put, List.setIfInBounds_toArray, List.set_cons_zero, List.set_cons_succ]
    refine take_in (i := 4) _ (some 19) (by kernel_rfl) (by kernel_rfl) (by kernel_rfl) (by kernel_rfl) (fun _ _ _ h => h) (by rfl) (fun o ho w hSw => by cases ho; (try dsimp only at hSw); (try go_split_ands); go_simp; (try with_reducible rfl)) hHeld ?_
    try simp only [Act.put, List.setIfInBounds_toArray, List.set_cons_zero, List.set_cons_succ]
    refine take_in (i := 5) _ (some 20) (by kernel_rfl) (by kernel_rfl) (by kernel_rfl) (by kernel_rfl) (fun _ _ _ h => h) (by rfl) (fun o ho w hSw => by cases ho; (try dsimp only at hSw); (try go_split_ands); go_simp; (try with_reducible rfl)) hHeld ?_
    try simp only [Act.put, List.setIfInBounds_toArray, List.set_cons_zero, List.set_cons_succ]
    refine take_in (i := 6) _ (some 21) (by kernel_rfl) (by kernel_rfl) (by kernel_rfl) (by kernel_rfl) (fun _ _ _ h => h) (by rfl) (fun o ho w hSw => by cases ho; (try dsimp only at hSw); (try go_split_ands); go_simp; (try with_reducible rfl)) hHeld ?_
    try simp only [Act.put, List.setIfInBounds_toArray, List.set_cons_zero, List.set_cons_succ]
    refine take_in (i := 7) _ (some 22) (by kernel_rfl) (by kernel_rfl) (by kernel_rfl) (by kernel_rfl) (fun _ _ _ h => h) (by rfl) (fun o ho w hSw => by cases ho; (try dsimp only at hSw); (try go_split_ands); go_simp; (try with_reducible rfl)) hHeld ?_
    try simp only [Act.put, List.setIfInBounds_toArray, List.set_cons_zero, List.set_cons_succ]
    refine wpAnyH_ready (rs := [8]) (by kernel_rfl) (by simp) ?_
    refine AllReadyH.cons (o := _) rfl (fun K hK => ?_) AllReadyH.nil
    go_simp
    refine hK.out _ _ (HS.out _ HC0.out) (fun hHeld => ?_)
    clear hK K
    try simp only [Act.put, List.setIfInBounds_toArray, List.set_cons_zero, List.set_cons_succ]
    refine wpAnyH_ready (rs := [9]) (by kernel_rfl) (by simp) ?_
    refine AllReadyH.cons (o := _) rfl (fun K hK => ?_) AllReadyH.nil
    go_simp
    go_at_call 79
    with_reducible refine (cloneInts_any _ _ _ _ _ _ (hi.out.below HC0.out) HC0.out.size hts).mono ?_
    rintro e wX ⟨A5, c5, rfl, hi5, hab5, hb5⟩
    have hbX := HC0.out.trans (hb5.mono HC0.out.size)
    have HCX := Lib.hid hbX
    have hroX := hro.below hbX
    have fz := hroX.frozen (j * 2 + 1)
    obtain ⟨t2, g0, g1, ht2, hi2⟩ := hroX.get hlt
    have hltg : g < wX.heap.size := hroX.gb.2
    obtain ⟨wY, hwY⟩ : ∃ wY, wX.setCell ⟨g, j * 2 + 1, none⟩ (.slice A5 tn c5) = wY := ⟨_, rfl⟩
    have hsY : Save g wX wY := by rw [← hwY]; exact Save.set
    have hroY := hroX.set ht.out hi5 fun hn ad e => ⟨by have := hab5 hn ad e; have := HC0.out.size; omega, by have := hab5 hn ad e; have := HC0.out.size; omega⟩
    rw [hwY] at hroY
    have HROY := Lib.hid hroY
    have HKY := Lib.hid ((hka.out.keep hbX).save hsY (by omega))
    have HKRY := Lib.hid ((hkr.out.keep hbX).save hsY (by omega))
    have HBY := Lib.hid ((hb.out.trans (hbX.mono hb.out.size)).trans (hsY.below (by omega) (by omega)))
    have HSY : Hid (wY.cell? ⟨w.heap.size, 1, none⟩ = some (.slice (some ⟨g, 0, none⟩) pn c2)) := HKY.out.cell 1
    clear hi5 hab5 hb5 hbX hroX hsY hroY g0 ht2 hi2
    refine hK.out _ _ (HS.out _ HCX.out) (fun hHeld => ?_)
    clear hK K
    try simp only [Act.put, List.setIfInBounds_toArray, List.set_cons_zero, List.set_cons_succ]
    refine take_in (i := 10) _ (some 25) (by kernel_rfl) (by kernel_rfl) (by kernel_rfl) (by kernel_rfl) (fun _ _ _ h => h) (by rfl) (fun o ho w hSw => by cases ho; (try dsimp only at hSw); (try go_split_ands); go_simp; (try with_reducible rfl)) hHeld ?_
    try simp only [Act.put, List.setIfInBounds_toArray, List.set_cons_zero, List.set_cons_succ]
    refine take_in (i := 11) _ (some 26) (by kernel_rfl) (by kernel_rfl) (by kernel_rfl) (by kernel_rfl) (fun _ _ _ h => h) (by rfl) (fun o ho w hSw => by cases ho; (try dsimp only at hSw); (try go_split_ands); go_simp; (try with_reducible rfl)) hHeld ?_
    try simp only [Act.put, List.setIfInBounds_toArray, List.set_cons_zero, List.set_cons_succ]
    refine wpAnyH_ready (rs := [12]) (by kernel_rfl) (by simp) ?_
    refine AllReadyH.cons (o := _) rfl (fun K hK => ?_) AllReadyH.nil
    go_simp
    refine hK.out _ _ HSY.out (fun hHeld => ?_)
    clear hK K
    try simp only [Act.put, List.setIfInBounds_toArray, List.set_cons_zero, List.set_cons_succ]
    refine wpAnyH_done (by kernel_rfl) ?_ _
    refine NoPanic.normal ?_
    go_wp2_with fail
    clear HS HSY HC0 HCX hHeld hwY g1 fz
    go_roundw
    case rel => exact ⟨j + 1, by omega, by go_num, HKY, HKRY, ⟨fun _ => ⟨g, rfl, HROY.out⟩, hr.out.2⟩, trivial, HBY⟩
    case measure => simp [intOf]; omega
theorem pvcopy_any (og hop med pref aas aad ori : Int) (hm hp atm ha ho : Bool) (pA cA kA uA : Option Addr) (pn pc cn cc kn kc un uc : Nat) (p us : Path) (cm cl : List Int) (B0 : Nat) (w : World) (hL : Lists w B0 pA cA kA uA pn pc cn cc kn kc un uc p cm cl us) (hB0 : B0 ≤ w.heap.size) (hs : (flat p).length ≤ 1000000) (hu : (flat us).length ≤ 1000000) :
    Calls Try.prog 46 #[.agg #[.int .i64 og, .slice pA pn pc, .int .u32 hop, .bool hm, .int .i64 med, .bool hp, .int .i64 pref, .bool atm, .bool ha, .int .i64 aas, .int .u32 aad, .slice cA cn cc, .bool ho, .int .u32 ori, .slice kA kn kc, .slice uA un uc]] w fun e w' => ∃ (pA' cA' kA' uA' : Option Addr) (pc' cc' kc' uc' : Nat), e = .returned (.agg #[.int .i64 og, .slice pA' pn pc', .int .u32 hop, .bool hm, .int .i64 med, .bool hp, .int .i64 pref, .bool atm, .bool ha, .int .i64 aas, .int .u32 aad, .slice cA' cn cc', .bool ho, .int .u32 ori, .slice kA' kn kc', .slice uA' un uc']) ∧
      ALists w' w'.heap.size B0 (w.heap.size + 2) pA' cA' kA' uA' pn pc' cn cc' kn kc' un uc' p cm cl us ∧ Below w.heap.size w w' := by
  refine (pvcopy_any2 og hop med pref aas aad ori hm hp atm ha ho pA cA kA uA pn pc cn cc kn kc un uc p us cm cl B0 w hL hB0 hs hu).mono ?_
  rintro e w' ⟨a, b, c, d, e1, e2, e3, e4, h1, h2, h3, _⟩
  exact ⟨a, b, c, d, e1, e2, e3, e4, h1, h2, h3⟩
end Go.Proofs.Ytojgohgeagbkbaa
