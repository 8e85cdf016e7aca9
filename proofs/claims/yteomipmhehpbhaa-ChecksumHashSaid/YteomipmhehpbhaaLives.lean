/- routinglaw04.lives, the chapter's examples, returns true. -/
import Derived.Test.YteomipmhehpbhaaRefFlet
import Derived.Test.YteomipmhehpbhaaHash
import Derived.Test.YteomipmhehpbhaaRefNet
namespace Go.Proofs.Yteomipmhehpbhaa
open Go.RowKit

theorem bytes_dec {xs : List Int} (h : xs.all (fun x => decide (0 ≤ x ∧ x ≤ 255)) = true) : Bytes xs := by
  intro j
  rw [List.getD_eq_getElem?_getD]
  cases hj : xs[j]? with
  | none => simp
  | some x =>
    have := List.all_eq_true.1 h x (List.mem_of_getElem? hj)
    simpa using this

theorem below_new {w w' : World} {o : Obj} (h : Below (w.alloc o).heap.size (w.alloc o) w') : Below w.heap.size w w' :=
  ((Below.refl w.heap.size w).alloc (Nat.le_refl _) o).trans (h.mono (by simp))
theorem lit_fletcher (w : World) : Calls Try.prog 13 #[.slice (some ⟨w.heap.size, 0, none⟩) 3 3, .int .i64 1] (w.alloc (.cells #[.int .u8 1, .int .u8 0, .int .u8 0] 5)) fun e w' => e = .returned (.tuple #[.int .i64 64769, .bool true]) ∧ Below w.heap.size w w' := by
  have hx : Ints (w.alloc (.cells #[.int .u8 1, .int .u8 0, .int .u8 0] 5)) (w.alloc (.cells #[.int .u8 1, .int .u8 0, .int .u8 0] 5)).heap.size .u8 (some ⟨w.heap.size, 0, none⟩) 3 3 [1, 0, 0] := ints_lit w 5 .u8 3 [1, 0, 0] rfl (by simp [maxLen]) _ (by simp)
  have hb : Bytes [1, 0, 0] := bytes_dec (by decide)
  have h := fletcher_ok _ 3 3 1 _ _ hx hb (by omega) (by omega)
  have e : 256 * cX [1, 0, 0] 3 1 + cY [1, 0, 0] 3 1 = 64769 := by decide
  rw [e] at h
  exact h.mono fun e w' ⟨h1, h2⟩ => ⟨h1, below_new h2⟩
theorem lit_internet (w : World) : Calls Try.prog 10 #[.slice (some ⟨w.heap.size, 0, none⟩) 8 8] (w.alloc (.cells #[.int .u8 0, .int .u8 1, .int .u8 242, .int .u8 3, .int .u8 244, .int .u8 245, .int .u8 246, .int .u8 247] 5)) fun e w' => e = .returned (.int .i64 8717) ∧ Below w.heap.size w w' := by
  have hx : Ints (w.alloc (.cells #[.int .u8 0, .int .u8 1, .int .u8 242, .int .u8 3, .int .u8 244, .int .u8 245, .int .u8 246, .int .u8 247] 5)) (w.alloc (.cells #[.int .u8 0, .int .u8 1, .int .u8 242, .int .u8 3, .int .u8 244, .int .u8 245, .int .u8 246, .int .u8 247] 5)).heap.size .u8 (some ⟨w.heap.size, 0, none⟩) 8 8 [0, 1, 242, 3, 244, 245, 246, 247] := ints_lit w 5 .u8 8 [0, 1, 242, 3, 244, 245, 246, 247] rfl (by simp [maxLen]) _ (by simp)
  have hb : Bytes [0, 1, 242, 3, 244, 245, 246, 247] := bytes_dec (by decide)
  have h := internet_any _ 8 8 _ _ _ hx hb (by omega)
  have e : inet (wsum [0, 1, 242, 3, 244, 245, 246, 247] 8) = 8717 := by decide
  rw [e] at h
  exact h.mono fun e w' ⟨h1, h2⟩ => ⟨h1, below_new (by subst h2; exact Below.refl _ _)⟩
theorem lit_hash (w : World) : Calls Try.prog 17 #[.slice (some ⟨w.heap.size, 0, none⟩) 1 1] (w.alloc (.cells #[.int .u8 97] 5)) fun e w' => e = .returned (.int .u32 3826002220) ∧ Below w.heap.size w w' := by
  have hx : Ints (w.alloc (.cells #[.int .u8 97] 5)) (w.alloc (.cells #[.int .u8 97] 5)).heap.size .u8 (some ⟨w.heap.size, 0, none⟩) 1 1 [97] := ints_lit w 5 .u8 1 [97] rfl (by simp [maxLen]) _ (by simp)
  have h := hash_any _ 1 1 _ _ _ hx (by omega)
  have e : hash [97] 1 = 3826002220 := by decide +kernel
  rw [e] at h
  exact h.mono fun e w' ⟨h1, h2⟩ => ⟨h1, below_new (by subst h2; exact Below.refl _ _)⟩
theorem lit_valid1 (w : World) : Calls Try.prog 15 #[.slice (some ⟨w.heap.size, 0, none⟩) 3 3] (w.alloc (.cells #[.int .u8 1, .int .u8 253, .int .u8 1] 5)) fun e w' => e = .returned (.bool true) ∧ Below w.heap.size w w' := by
  have hx : Ints (w.alloc (.cells #[.int .u8 1, .int .u8 253, .int .u8 1] 5)) (w.alloc (.cells #[.int .u8 1, .int .u8 253, .int .u8 1] 5)).heap.size .u8 (some ⟨w.heap.size, 0, none⟩) 3 3 [1, 253, 1] := ints_lit w 5 .u8 3 [1, 253, 1] rfl (by simp [maxLen]) _ (by simp)
  have hb : Bytes [1, 253, 1] := bytes_dec (by decide)
  have h := valid_any _ 3 3 _ _ hx hb (by omega)
  have e : valid [1, 253, 1] 3 = true := by decide
  rw [e] at h
  exact h.mono fun e w' ⟨h1, h2⟩ => ⟨h1, below_new h2⟩
theorem lit_valid2 (w : World) : Calls Try.prog 15 #[.slice (some ⟨w.heap.size, 0, none⟩) 3 3] (w.alloc (.cells #[.int .u8 1, .int .u8 253, .int .u8 2] 5)) fun e w' => e = .returned (.bool false) ∧ Below w.heap.size w w' := by
  have hx : Ints (w.alloc (.cells #[.int .u8 1, .int .u8 253, .int .u8 2] 5)) (w.alloc (.cells #[.int .u8 1, .int .u8 253, .int .u8 2] 5)).heap.size .u8 (some ⟨w.heap.size, 0, none⟩) 3 3 [1, 253, 2] := ints_lit w 5 .u8 3 [1, 253, 2] rfl (by simp [maxLen]) _ (by simp)
  have hb : Bytes [1, 253, 2] := bytes_dec (by decide)
  have h := valid_any _ 3 3 _ _ hx hb (by omega)
  have e : valid [1, 253, 2] 3 = false := by decide
  rw [e] at h
  exact h.mono fun e w' ⟨h1, h2⟩ => ⟨h1, below_new h2⟩
theorem lit_nil (w : World) : Calls Try.prog 17 #[.slice none 0 0] w fun e w' => e = .returned (.int .u32 2166136261) ∧ Below w.heap.size w w' :=
  (hash_any none 0 0 w.heap.size [] w (Ints.nil _ _ _) (by omega)).mono fun e w' ⟨h1, h2⟩ => ⟨h1, by subst h2; exact Below.refl _ _⟩

set_option maxHeartbeats 1000000 in
theorem lives_any (w : World) :
    Calls Try.prog 12 #[] w fun e w' => e = .returned (.bool true) ∧ Below w.heap.size w w' := by
  go_enter Try.func12, Try.ntmps12
  go_wp2_with fail
  refine (lit_fletcher _).mono ?_
  rintro e w1 ⟨rfl, h1⟩
  have H1 := Lib.hid h1
  clear h1
  go_wp2_with fail
  refine (lit_internet _).mono ?_
  rintro e w2 ⟨rfl, h2⟩
  have H2 := Lib.hid h2
  clear h2
  go_wp2_with fail
  refine (lit_nil _).mono ?_
  rintro e w3 ⟨rfl, h3⟩
  have H3 := Lib.hid h3
  clear h3
  go_wp2_with fail
  refine (lit_hash _).mono ?_
  rintro e w4 ⟨rfl, h4⟩
  have H4 := Lib.hid h4
  clear h4
  go_wp2_with fail
  refine (lit_valid1 _).mono ?_
  rintro e w5 ⟨rfl, h5⟩
  have H5 := Lib.hid h5
  clear h5
  go_wp2_with fail
  refine (lit_valid2 _).mono ?_
  rintro e w6 ⟨rfl, h6⟩
  have H6 := Lib.hid h6
  clear h6
  go_wp2
  go_ret
  have K2 := H1.out.trans (H2.out.mono H1.out.size)
  have K3 := K2.trans (H3.out.mono K2.size)
  have K4 := K3.trans (H4.out.mono K3.size)
  have K5 := K4.trans (H5.out.mono K4.size)
  exact ⟨rfl, K5.trans (H6.out.mono K5.size)⟩
end Go.Proofs.Yteomipmhehpbhaa
