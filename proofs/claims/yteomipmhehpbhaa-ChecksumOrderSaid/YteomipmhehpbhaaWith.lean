/- routingref04.With returns a copy of the bytes with a value of two bytes at an index. -/
import Derived.Test.YteomipmhehpbhaaSums
namespace Go.Proofs.Yteomipmhehpbhaa
open Go.RowKit

/-- the bytes with the value v in the places i and i + 1 -/
def with2 (xs : List Int) (i : Nat) (v : Int) : List Int := (xs.set i (v / 256)).set (i + 1) (v % 256)

theorem u8_info : (Try.prog.info? 5).map (fun i => (i.zero, i.size, i.bytes)) = some (some (.int .u8 0), 1, 1) := by kernel_rfl

set_option maxHeartbeats 400000 in
theorem with_any (A : Option Addr) (n c i : Nat) (v : Int) (xs : List Int) (w : World) (hx : Ints w w.heap.size .u8 A n c xs) (hi : i + 1 < n) (hv0 : 0 ≤ v) (hv1 : v ≤ 65535) (hn : n ≤ 140737488355328) :
    Calls Try.prog 24 #[.slice A n c, .int .i64 i, .int .i64 v] w (GivesInts 5 .u8 n (with2 xs i v) w) := by
  have hown : Own (w.alloc (.cells #[] 5)) w.heap.size 5 .u8 (.slice (some ⟨w.heap.size, 0, none⟩) 0 0) 0 [] := World.ownsRow_lit w #[] 0 (Nat.le_refl _) (by simp [maxLen]) rfl
  have hx1 : Ints (w.alloc (.cells #[] 5)) w.heap.size .u8 A n c xs := hx.keep fun p hp => World.cell?_alloc_lt w _ p hp
  obtain ⟨v1, w1, hrun, ho1, hg1, hat⟩ := Ints.append (P := Try.prog) (t := 22) (ty := 22) Try.underlying22 u8_info rfl hown hx1 (by simp only [maxLen]; omega) (by omega) (by simp)
  rw [Nat.zero_add, List.nil_append] at ho1
  have hb1 : Below w.heap.size w w1 := ((Below.refl _ _).alloc (Nat.le_refl _) _).grown hg1 (by simp) (by simp [Value.ownBlock])
  obtain ⟨g, cap, rfl, hbg, hlt⟩ := ho1.form (by omega)
  have c0 := ho1.cell (j := i) (by omega)
  have c1 := ho1.cell (j := i + 1) (by omega)
  have f0 := ho1.frozen i
  have f1 := ho1.frozen (i + 1)
  have HO := Lib.hid ho1
  have HB := Lib.hid hb1
  obtain ⟨x0, q0⟩ : ∃ x0, xs.getD i 0 = x0 := ⟨_, rfl⟩
  obtain ⟨x1, q1⟩ : ∃ x1, xs.getD (i + 1) 0 = x1 := ⟨_, rfl⟩
  rw [q0] at c0
  rw [q1] at c1
  have HR := Lib.hid hrun
  clear hrun ho1 hb1 hg1 hx hx1 hown hat q0 q1
  go_enter Try.func24, Try.ntmps24
  go_wp2_with (at_builtin; refine wpList_append_run rfl _ _ _ rfl rfl rfl HR.out ?_)
  go_ret
  refine ⟨_, _, rfl, ?_, ?_⟩
  · exact (HO.out.set i _).set (i + 1) _
  · exact (HB.out.setCell (p := ⟨g, i, none⟩) hbg _).setCell (p := ⟨g, i + 1, none⟩) hbg _
end Go.Proofs.Yteomipmhehpbhaa
