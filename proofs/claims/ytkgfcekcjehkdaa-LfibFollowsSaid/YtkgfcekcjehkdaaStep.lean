/- What Forward does: the plain function; the program's step. -/
import Derived.Test.YtkgfcekcjehkdaaSearch
namespace Go.Proofs.Ytkgfcekcjehkdaa
open Go.RowKit

theorem Ints.prefix {w : World} {B : Nat} {k : IntKind} {A : Option Addr} {n c m : Nat} {xs : List Int} (h : Ints w B k A n c xs) (hm : m ≤ n) : Ints w B k A m c (xs.take m) := by
  obtain ⟨h1, h2, h3, h4⟩ := h
  have hl : xs.length = n := by simpa using h3
  refine ⟨by omega, h2, by simp; omega, fun h0 => ?_⟩
  obtain ⟨b, o, e, hb, hc⟩ := h4 (by omega)
  refine ⟨b, o, e, hb, fun j hj => ?_⟩
  rw [hc j (by omega), List.getElem?_map, List.getElem?_map, List.getElem?_take, if_pos (by omega)]

/-- the hops of a label -/
def look : List EV → Int → Option (List HV)
  | [], _ => none
  | e :: es, x => if e.inn = x then some e.hs else look es x
theorem look_none : ∀ {es : List EV} {x : Int}, (∀ j, j < es.length → innAt es j ≠ x) → look es x = none
  | [], _, _ => rfl
  | e :: es, x, h => by
    rw [look, if_neg (fun he => h 0 (by simp) (by simpa [innAt] using he))]
    exact look_none fun j hj => by
      have := h (j + 1) (by simpa using hj)
      simpa [innAt] using this
theorem look_at : ∀ {es : List EV} {x : Int} {i : Nat}, i < es.length → innAt es i = x → (∀ j, j < i → innAt es j ≠ x) → look es x = some (hsAt es i)
  | [], _, i, hi, _, _ => by simp at hi
  | e :: es, x, 0, _, he, _ => by
    have : e.inn = x := by simpa [innAt] using he
    rw [look, if_pos this]
    simp [hsAt]
  | e :: es, x, i + 1, hi, he, hj => by
    rw [look, if_neg (fun h => hj 0 (by omega) (by simpa [innAt] using h))]
    have := look_at (es := es) (x := x) (i := i) (by simpa using hi) (by simpa [innAt] using he) (fun j hji => by
      have := hj (j + 1) (by omega)
      simpa [innAt] using this)
    rw [this]
    simp [hsAt]
theorem look_sorted {es : List EV} (hs : Sorted es) {x : Int} {i : Nat} (hi : i < es.length) (he : innAt es i = x) : look es x = some (hsAt es i) :=
  look_at hi he fun j hj h => by
    have := hs.lt j i hj hi
    omega
/-- a table without an error -/
theorem sorted_of {es : List EV} (h : tabErr es = 0) : Sorted es ∧ es.length ≤ 2000 ∧ ∀ i, i < es.length → hopsErr (hsAt es i) = 0 := by
  unfold tabErr at h
  by_cases h0 : 2000 < es.length
  · rw [if_pos h0] at h; omega
  rw [if_neg h0] at h
  have hz := firstE_zero h
  have each : ∀ i, i < es.length → labOK (innAt es i) = true ∧ ¬ (0 < i ∧ innAt es i ≤ innAt es (i - 1)) ∧ hopsErr (hsAt es i) = 0 := by
    intro i hi
    have := hz i hi
    unfold entErr at this
    by_cases h1 : labOK (innAt es i) = false
    · rw [if_pos h1] at this; omega
    rw [if_neg h1] at this
    by_cases h2 : 0 < i ∧ innAt es i ≤ innAt es (i - 1)
    · rw [if_pos h2] at this; omega
    rw [if_neg h2] at this
    exact ⟨by simpa using h1, h2, this⟩
  refine ⟨⟨fun i j hij hj => ?_, fun i hi => ?_⟩, by omega, fun i hi => (each i hi).2.2⟩
  · obtain ⟨d, rfl⟩ : ∃ d, j = i + 1 + d := ⟨j - i - 1, by omega⟩
    clear hij
    induction d with
    | zero =>
      have := (each (i + 1) hj).2.1
      rw [Nat.add_sub_cancel] at this
      have h3 : ¬ innAt es (i + 1) ≤ innAt es i := fun h => this ⟨by omega, h⟩
      show innAt es i < innAt es (i + 1)
      omega
    | succ d ih =>
      have h3 := ih (by omega)
      have := (each (i + 1 + d + 1) hj).2.1
      rw [Nat.add_sub_cancel] at this
      have h4 : ¬ innAt es (i + 1 + d + 1) ≤ innAt es (i + 1 + d) := fun h => this ⟨by omega, h⟩
      show innAt es i < innAt es (i + 1 + d + 1)
      omega
  · have := (each i hi).1
    unfold labOK at this
    simp at this
    exact this
theorem hop_of {hs : List HV} (h : hopsErr hs = 0) : hs.length ≤ 64 ∧ ∀ (i : Nat) (x : HV), hs[i]? = some x → x.router ≠ 0 ∧ (x.label = -1 ∨ (16 ≤ x.label ∧ x.label ≤ 1048575)) := by
  unfold hopsErr at h
  by_cases h0 : 64 < hs.length
  · rw [if_pos h0] at h; omega
  rw [if_neg h0] at h
  refine ⟨by omega, fun i x hx => ?_⟩
  have hi := (List.getElem?_eq_some_iff.1 hx).1
  have := firstE_zero h i hi
  rw [hopErr_of hx] at this
  by_cases h1 : x.router = 0 ∨ (x.label ≠ -1 ∧ labOK x.label = false)
  · rw [if_pos h1] at this; omega
  · refine ⟨fun h => h1 (.inl h), ?_⟩
    by_cases h2 : x.label = -1
    · exact .inl h2
    · right
      cases h3 : labOK x.label
      · exact absurd (.inr ⟨h2, h3⟩) h1
      · unfold labOK at h3
        simp at h3
        exact h3
/-- the packet that leaves by a hop -/
def hopOut (p : PD) (h : HV) : PD := { p with ttl := p.ttl - 1, ls := if h.label = -1 then p.ls.dropLast else p.ls.dropLast ++ [h.label] }
/-- what happens to a packet with a label, in a table without an error -/
def stepR (es : List EV) (p : PD) : PD × Int × Int :=
  match look es (p.ls.getD (p.ls.length - 1) 0) with
  | none => (zeroPD, 0, 6)
  | some hs => if hs.length = 0 then ({ p with ls := p.ls.dropLast }, 0, 0) else if p.ttl ≤ 1 then (zeroPD, 0, 23) else (hopOut p ((hs[p.flow.toNat % hs.length]?).getD ⟨0, 0⟩), ((hs[p.flow.toNat % hs.length]?).getD ⟨0, 0⟩).router, 0)
/-- what Forward returns -/
def fwd (es : List EV) (p : PD) : PD × Int × Int := if tabErr es ≠ 0 then (zeroPD, 0, tabErr es) else if p.ls.length = 0 then (zeroPD, 0, 9) else stepR es p
theorem dropLast_take (ls : List Int) : ls.take (ls.length - 1) = ls.dropLast := by rw [List.dropLast_eq_take]

set_option maxHeartbeats 400000 in
theorem cloneOwn_any (A : Option Addr) (n c : Nat) (xs : List Int) (w : World) (hx : Ints w w.heap.size .i64 A n c xs) (hn : n ≤ 17592186044416) :
    Calls Try.prog 28 #[.slice A n c] w (GivesInts 3 .i64 n xs w) := by
  rcases A with _ | ad
  · have h0 : n = 0 := by
      rcases Nat.eq_zero_or_pos n with h | h
      · exact h
      · obtain ⟨_, _, h, _⟩ := hx.2.2.2 h
        cases h
    subst h0
    obtain rfl : xs = [] := List.eq_nil_of_length_eq_zero hx.len
    have he := Lib.run_eql_slice_nil (P := Try.prog) w 25 3 none 0 c 0 0 Try.underlying25
    clear hx
    go_enter Try.func28, Try.ntmps28
    go_wp2
    go_ret
    exact ⟨none, 0, rfl, Own.nil _ _ _ _, Below.refl _ _⟩
  · have he := Lib.run_eql_slice_nil (P := Try.prog) w 25 3 (some ad) n c 0 0 Try.underlying25
    have hown : Own (w.alloc (.cells #[] 3)) w.heap.size 3 .i64 (.slice (some ⟨w.heap.size, 0, none⟩) 0 0) 0 [] := World.ownsRow_lit w #[] 0 (Nat.le_refl _) (by simp [maxLen]) rfl
    have hx1 : Ints (w.alloc (.cells #[] 3)) w.heap.size .i64 (some ad) n c xs := hx.keep fun p hp => World.cell?_alloc_lt w _ p (by omega)
    obtain ⟨v1, w1, hrun, ho1, hg1, hat⟩ := Ints.append (P := Try.prog) (t := 25) (ty := 25) Try.underlying25 ints_info rfl hown hx1 (by simp only [maxLen]; omega) (by omega) (by simp)
    rw [Nat.zero_add, List.nil_append] at ho1
    have HR := Lib.hid hrun
    have HB := Lib.hid (((Below.refl w.heap.size w).alloc (Nat.le_refl _) _).grown hg1 (by simp) (by simp [Value.ownBlock]))
    obtain ⟨A2, c2, rfl⟩ := own_form ho1
    have HO := Lib.hid ho1
    clear hrun hg1 hat ho1 hown hx1 hx
    go_enter Try.func28, Try.ntmps28
    go_wp2_with (at_builtin; refine wpList_append_run rfl _ _ _ rfl rfl rfl HR.out ?_)
    go_ret
    exact ⟨A2, c2, rfl, HO.out, HB.out⟩

/-- a packet whose labels lie in new memory -/
def PkOwn (w : World) (base : Nat) (v : Value) (p : PD) : Prop := ∃ A n c, v = .agg #[.int .u32 p.src, .int .u32 p.dst, .int .u32 p.flow, .int .i64 p.ttl, .slice A n c] ∧ Own w base 3 .i64 (.slice A n c) n p.ls
theorem PkOwn.zero (w : World) (B : Nat) : PkOwn w B (.agg #[.int .u32 0, .int .u32 0, .int .u32 0, .int .i64 0, .slice none 0 0]) zeroPD := ⟨none, 0, 0, rfl, Own.nil _ _ _ _⟩
theorem PkOwn.at_ {w : World} {base : Nat} {v : Value} {p : PD} (h : PkOwn w base v p) : PkAt w w.heap.size v p := by
  obtain ⟨A, n, c, e, ho⟩ := h
  exact ⟨A, n, c, e, ho.ints⟩
/-- the call returns a packet, a router and an error -/
def GivesP3 (q : PD × Int × Int) (w : World) (e : Ending) (w' : World) : Prop := ∃ v, e = .returned (.tuple #[v, .int .u32 q.2.1, .int .i64 q.2.2]) ∧ PkOwn w' w.heap.size v q.1 ∧ Below w.heap.size w w'
end Go.Proofs.Ytkgfcekcjehkdaa
