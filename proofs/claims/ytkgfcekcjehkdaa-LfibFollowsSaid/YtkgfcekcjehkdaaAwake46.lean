/- The laws' functions 'same' and 'awake' of chapter 46. -/
import Derived.Test.YtkgfcekcjehkdaaRefFwd
namespace Go.Proofs.Ytkgfcekcjehkdaa
open Go.RowKit

/-- a packet's box -/
def PB (N : Nat) (s d f t : Int) (A : Option Addr) (n c : Nat) (W : World) : Prop :=
  W.cell? ⟨N, 0, none⟩ = some (.int .u32 s) ∧ W.cell? ⟨N, 1, none⟩ = some (.int .u32 d) ∧ W.cell? ⟨N, 2, none⟩ = some (.int .u32 f) ∧ W.cell? ⟨N, 3, none⟩ = some (.int .i64 t) ∧ W.cell? ⟨N, 4, none⟩ = some (.slice A n c) ∧ N < W.heap.size
section
variable {N : Nat} {s d f t : Int} {A : Option Addr} {n c : Nat} {w W : World}
theorem PB.step (h : PB N s d f t A n c w) (hb : Below w.heap.size w W) : PB N s d f t A n c W := by
  obtain ⟨h0, h1, h2, h3, h4, h5⟩ := h
  have k : ∀ o, W.cell? ⟨N, o, none⟩ = w.cell? ⟨N, o, none⟩ := fun o => hb.cell (p := ⟨N, o, none⟩) h5
  exact ⟨(k 0).trans h0, (k 1).trans h1, (k 2).trans h2, (k 3).trans h3, (k 4).trans h4, Nat.lt_of_lt_of_le h5 hb.size⟩
theorem PB.new {T : TypeId} (w : World) : PB w.heap.size s d f t A n c (w.alloc (.cells #[.int .u32 s, .int .u32 d, .int .u32 f, .int .i64 t, .slice A n c] T)) :=
  ⟨by go_simp, by go_simp, by go_simp, by go_simp, by go_simp, by simp⟩
theorem PB.newAt {T : TypeId} (hN : N = w.heap.size) (hb : Below (N + 1) (w.alloc (.cells #[.int .u32 s, .int .u32 d, .int .u32 f, .int .i64 t, .slice A n c] T)) W) : PB N s d f t A n c W := by
  subst hN
  have := PB.new (T := T) (s := s) (d := d) (f := f) (t := t) (A := A) (n := n) (c := c) w
  exact this.step (hb.mono (by simp))
end
theorem belowA (w : World) (o : Obj) : Below w.heap.size w (w.alloc o) := (Below.refl _ _).alloc (Nat.le_refl _) _
theorem below3 {w W W' : World} (h : Below w.heap.size w W) (hb : Below W.heap.size W W') : Below w.heap.size w W' := h.trans (hb.mono h.size)

set_option maxHeartbeats 1000000 in
theorem same_true (A A' : Option Addr) (n c n' c' N M : Nat) (s d f t : Int) (xs : List Int) (w : World) (hx : Ints w N .i64 A n c xs) (hy : Ints w M .i64 A' n' c' xs) (hN : N ≤ w.heap.size) (hM : M ≤ w.heap.size) (hn : n ≤ 17592186044416) :
    Calls Try.prog 14 #[.agg #[.int .u32 s, .int .u32 d, .int .u32 f, .int .i64 t, .slice A n c], .agg #[.int .u32 s, .int .u32 d, .int .u32 f, .int .i64 t, .slice A' n' c']] w fun e w' => e = .returned (.bool true) ∧ Below w.heap.size w w' := by
  have hn' : n' = n := by rw [← hx.len, ← hy.len]
  subst hn'
  have HB := Lib.hid (((Below.refl w.heap.size w).alloc (Nat.le_refl _) (.cells #[.int .u32 s, .int .u32 d, .int .u32 f, .int .i64 t, .slice A n' c] 27)).alloc (by simp) (.cells #[.int .u32 s, .int .u32 d, .int .u32 f, .int .i64 t, .slice A' n' c'] 27))
  have HX := Lib.hid (hx.below (HB.out.mono hN))
  have HY := Lib.hid (hy.below (HB.out.mono hM))
  clear hx hy
  go_enter Try.func14, Try.ntmps14
  go_wp2_with fail
  refine (sameInts_any A A' n' c n' c' N M xs xs _ HX.out HY.out hn hn).mono ?_
  rintro e w' ⟨rfl, rfl⟩
  have hd : decide (xs = xs) = true := by simp
  rw [hd]
  clear hd
  go_wp2
  go_ret
  exact ⟨rfl, HB.out⟩

/-- a table of one entry, made on the spot -/
theorem tab_lit (V : World) (N M : Nat) (r l x : Int) (hN : N = V.heap.size) :
    Tab ((V.alloc (.cells #[.int .u32 r, .int .i64 l] 45)).alloc (.cells #[.int .i64 x, .slice (some ⟨N, 0, none⟩) 1 1] 43)) ((V.alloc (.cells #[.int .u32 r, .int .i64 l] 45)).alloc (.cells #[.int .i64 x, .slice (some ⟨N, 0, none⟩) 1 1] 43)).heap.size
      (some ⟨N + 1, 0, none⟩) 1 1 [⟨x, some ⟨N, 0, none⟩, 1, 1, [⟨r, l⟩]⟩] := by
  subst hN
  have h1 : (V.alloc (.cells #[.int .u32 r, .int .i64 l] 45)).ownsRow 0 45 2 (.slice (some ⟨V.heap.size, 0, none⟩) 1 1) 1 [.int .u32 r, .int .i64 l] := World.ownsRow_lit V #[.int .u32 r, .int .i64 l] 1 (Nat.zero_le _) (by simp [maxLen]) rfl
  have h2 := World.ownsRow_lit (base := 0) (e := 43) (size := 2) (V.alloc (.cells #[.int .u32 r, .int .i64 l] 45)) #[.int .i64 x, .slice (some ⟨V.heap.size, 0, none⟩) 1 1] 1 (Nat.zero_le _) (by simp [maxLen]) rfl
  rw [show (V.alloc (.cells #[.int .u32 r, .int .i64 l] 45)).heap.size = V.heap.size + 1 by simp] at h2
  refine ⟨⟨Cells.of_own h2, rfl⟩, fun e he => ?_⟩
  simp only [List.mem_cons, List.not_mem_nil, or_false] at he
  subst he
  exact ⟨Cells.of_own (h1.alloc _), rfl⟩
theorem tab_nil (V : World) (N : Nat) (x : Int) (hN : N = V.heap.size) :
    Tab (V.alloc (.cells #[.int .i64 x, .slice none 0 0] 43)) (V.alloc (.cells #[.int .i64 x, .slice none 0 0] 43)).heap.size (some ⟨N, 0, none⟩) 1 1 [⟨x, none, 0, 0, []⟩] := by
  subst hN
  have h2 := World.ownsRow_lit (base := 0) (e := 43) (size := 2) V #[.int .i64 x, .slice none 0 0] 1 (Nat.zero_le _) (by simp [maxLen]) rfl
  refine ⟨⟨Cells.of_own h2, rfl⟩, fun e he => ?_⟩
  simp only [List.mem_cons, List.not_mem_nil, or_false] at he
  subst he
  exact ⟨Cells.nil _ _ _, rfl⟩
theorem fwd_a (A : Option Addr) : fwd [⟨16, A, 1, 1, [⟨2, 30⟩]⟩] ⟨0, 0, 0, 5, [99, 16]⟩ = (⟨0, 0, 0, 4, [99, 30]⟩, 2, 0) := by rfl
theorem fwd_b (A : Option Addr) : fwd [⟨16, A, 1, 1, [⟨2, -1⟩]⟩] ⟨0, 0, 0, 5, [99, 16]⟩ = (⟨0, 0, 0, 4, [99]⟩, 2, 0) := by rfl
theorem fwd_c : fwd [⟨16, none, 0, 0, []⟩] ⟨0, 0, 0, 5, [99, 16]⟩ = (⟨0, 0, 0, 5, [99]⟩, 0, 0) := by rfl
theorem push_a : push zeroPD [17, 18] = (⟨0, 0, 0, 0, [17, 18]⟩, 0) := by rfl
end Go.Proofs.Ytkgfcekcjehkdaa
