/- BalanceFailures: the walk. -/
import Derived.Test.YtlcgjgmhllmekaaFailAux2
namespace Go.Proofs.Ytlcgjgmhllmekaa
open Go.RowKit

set_option maxRecDepth 100000 in
set_option maxHeartbeats 40000000 in
theorem failures_walk0 (act flow a b : Int) (A : Option Addr) (n c : Nat) (ds : List PV) (w : World) (hx : GroupAt w w.heap.size A n c ds) (hsd : ShortD ds) (hn0 : n ≤ 140737488355328) (hf : 0 ≤ flow ∧ flow < 4294967296) :
    Calls Try.prog 6 #[.agg #[.int .i64 act, .slice A n c], .int .u32 flow, .int .i64 a, .int .i64 b] w fun e w' => e = .returned (.bool true) ∧ Below w.heap.size w w' := by
  have HS0 : Hid (GBox w act (.slice A n c) (w.alloc (.cells #[.int .i64 act, .slice A n c] 24))) := GBox.of (Below.refl _ _)
  by_cases hn : 80 < n
  · clear hx
    go_enter Try.func6, Try.ntmps6
    go_wp2_with fail
    refine (awake_any _).mono ?_
    rintro e w1 ⟨rfl, hb1⟩
    have HB : Hid (Below w.heap.size w w1) := (HS0.out.step hb1).below
    clear hb1 HS0
    go_wp2
    go_ret
    exact ⟨rfl, HB.out⟩
  have C2 := Lib.hid (refCheck_at A n c w.heap.size act ds _ (hx.below HS0.out.below) HS0.out.below.size (by omega))
  by_cases hg : gErr act n ds = 0
  · rw [hg] at C2
    have G := Lib.hid (good_of hg)
    have HI := Lib.hid hx.idem
    have HL := Lib.hid hx.len
    have HX := Lib.hid hx
    have HSD := Lib.hid hsd
    have HF := Lib.hid hf
    have hn1 : n ≤ 1000 := by omega
    clear hg hx hsd hf
    go_enter Try.func6, Try.ntmps6
    go_wp2_with fail
    refine C2.out.mono ?_
    rintro e w1 ⟨rfl, hb1⟩
    have HS1 : Hid (GBox w act (.slice A n c) w1) := HS0.out.step hb1
    clear hb1
    obtain ⟨fa, hfa⟩ : ∃ m, failG act n ds a = m := ⟨_, rfl⟩
    obtain ⟨fb, hfb⟩ : ∃ m, failG act n ds b = m := ⟨_, rfl⟩
    obtain ⟨xs, hxs⟩ : ∃ m, failG act n fa b = m := ⟨_, rfl⟩
    obtain ⟨ys, hys⟩ : ∃ m, failG act n fb a = m := ⟨_, rfl⟩
    have HXS : Hid (failG act n (failG act n ds a) b = xs) := by show _ = _; rw [hfa]; exact hxs
    have HYS : Hid (failG act n (failG act n ds b) a = ys) := by show _ = _; rw [hfb]; exact hys
    have HFA : Hid (ShortD fa) := by rw [← hfa]; exact shortD_failG HI.out HSD.out
    have HFB : Hid (ShortD fb) := by rw [← hfb]; exact shortD_failG HI.out HSD.out
    have F1 : Hid (∀ W, GBox w act (.slice A n c) W → Calls Try.prog 15 #[.agg #[.int .i64 act, .slice A n c], .int .i64 a] W (GivesG2 act n fa W)) := by
      intro W h
      have := fail_at2 A n c act a ds W (HX.out.grow h.below h.below.size) HSD.out hn1
      rwa [hfa] at this
    have F2 : Hid (∀ W, GBox w act (.slice A n c) W → Calls Try.prog 15 #[.agg #[.int .i64 act, .slice A n c], .int .i64 b] W (GivesG2 act n fb W)) := by
      intro W h
      have := fail_at2 A n c act b ds W (HX.out.grow h.below h.below.size) HSD.out hn1
      rwa [hfb] at this
    have F3 : Hid (∀ W A' c', GroupAt W W.heap.size A' n c' fa → Calls Try.prog 15 #[.agg #[.int .i64 act, .slice A' n c'], .int .i64 b] W (GivesG2 act n xs W)) := by
      intro W A' c' h
      have := fail_at2 A' n c' act b fa W h HFA.out hn1
      rwa [hxs] at this
    have F4 : Hid (∀ W A' c', GroupAt W W.heap.size A' n c' fb → Calls Try.prog 15 #[.agg #[.int .i64 act, .slice A' n c'], .int .i64 a] W (GivesG2 act n ys W)) := by
      intro W A' c' h
      have := fail_at2 A' n c' act a fb W h HFB.out hn1
      rwa [hys] at this
    clear hfa hfb hxs hys
    go_upto_region 3 with fail
    go_cut [9, 10] (fun s9 s10 wx => TwoG w act n xs ys s9 s10 wx)
    case first =>
      refine wp_region_noPanic ?_
      refine wp_region_held_drew (S := fun w' => GBox w act (.slice A n c) w') (by kernel_rfl) (HS1.out.step ((Below.refl _ _).drew)) (fun hHeld => ?_)
      refine take_in (i := 0) (.agg #[.int .i64 act, .slice A n c]) (some 25) (by kernel_rfl) (by kernel_rfl) (by kernel_rfl) (by kernel_rfl) (fun _ _ _ h => h) (by rfl) (fun o ho w hSw => by cases ho; have h0 := hSw.1; have h1 := hSw.2.1; clear hSw; go_simp) hHeld ?_
      try simp only [Act.put, List.setIfInBounds_toArray, List.set_cons_zero, List.set_cons_succ]
      refine take_in (i := 1) (.int .i64 a) (some 26) (by kernel_rfl) (by kernel_rfl) (by kernel_rfl) (by kernel_rfl) (fun _ _ _ h => h) (by rfl) (fun o ho w hSw => by cases ho; have h0 := hSw.1; have h1 := hSw.2.1; clear hSw; go_simp) hHeld ?_
      try simp only [Act.put, List.setIfInBounds_toArray, List.set_cons_zero, List.set_cons_succ]
      refine take_in (i := 3) (.int .i64 b) (some 28) (by kernel_rfl) (by kernel_rfl) (by kernel_rfl) (by kernel_rfl) (fun _ _ _ h => h) (by rfl) (fun o ho w hSw => by cases ho; have h0 := hSw.1; have h1 := hSw.2.1; clear hSw; go_simp) hHeld ?_
      try simp only [Act.put, List.setIfInBounds_toArray, List.set_cons_zero, List.set_cons_succ]
      refine take_in (i := 5) (.agg #[.int .i64 act, .slice A n c]) (some 30) (by kernel_rfl) (by kernel_rfl) (by kernel_rfl) (by kernel_rfl) (fun _ _ _ h => h) (by rfl) (fun o ho w hSw => by cases ho; have h0 := hSw.1; have h1 := hSw.2.1; clear hSw; go_simp) hHeld ?_
      try simp only [Act.put, List.setIfInBounds_toArray, List.set_cons_zero, List.set_cons_succ]
      refine take_in (i := 6) (.int .i64 b) (some 31) (by kernel_rfl) (by kernel_rfl) (by kernel_rfl) (by kernel_rfl) (fun _ _ _ h => h) (by rfl) (fun o ho w hSw => by cases ho; have h0 := hSw.1; have h1 := hSw.2.1; clear hSw; go_simp) hHeld ?_
      try simp only [Act.put, List.setIfInBounds_toArray, List.set_cons_zero, List.set_cons_succ]
      refine take_in (i := 8) (.int .i64 a) (some 33) (by kernel_rfl) (by kernel_rfl) (by kernel_rfl) (by kernel_rfl) (fun _ _ _ h => h) (by rfl) (fun o ho w hSw => by cases ho; have h0 := hSw.1; have h1 := hSw.2.1; clear hSw; go_simp) hHeld ?_
      try simp only [Act.put, List.setIfInBounds_toArray, List.set_cons_zero, List.set_cons_succ]
      have hS : Hid (GBox w act (.slice A n c) w1.drew) := HS1.out.step ((Below.refl _ _).drew)
      obtain ⟨W0, hW0⟩ : ∃ V, w1.drew = V := ⟨_, rfl⟩
      rw [hW0] at hS ⊢
      clear hHeld hW0 HS1
      refine wpAnyH_ready (rs := [2, 10, 11]) (by kernel_rfl) (by simp) ?_
      refine AllReadyH.cons (o := _) rfl (fun K hK => ?_) ?_
      · go_simp
        go_at_call 15
        with_reducible refine (F1.out _ hS.out).mono ?_
        rintro e W1 ⟨A1, c1, rfl, hG, hb⟩
        have hS1 := Lib.hid (hS.out.step hb)
        have h1' := Lib.hid (Gr.of hG)
        clear hS hG hb 
        have hS := hS1
        have h1 := h1'
        clear hS1 h1'
        refine hK.out _ _ hS.out (fun _ => ?_)
        clear hK K
        try simp only [Act.put, List.setIfInBounds_toArray, List.set_cons_zero, List.set_cons_succ]
        refine wpAnyH_ready (rs := [4, 10, 11]) (by kernel_rfl) (by simp) ?_
        refine AllReadyH.cons (o := _) rfl (fun K hK => ?_) ?_
        · go_simp
          go_at_call 15
          with_reducible refine (F3.out _ _ _ h1.out.group).mono ?_
          rintro e W2 ⟨A2, c2, rfl, hG, hb⟩
          have hS1 := Lib.hid (hS.out.step hb)
          have h2' := Lib.hid (Gr.of hG)
          clear hS hG hb h1
          have hS := hS1
          have h2 := h2'
          clear hS1 h2'
          refine hK.out _ _ hS.out (fun _ => ?_)
          clear hK K
          try simp only [Act.put, List.setIfInBounds_toArray, List.set_cons_zero, List.set_cons_succ]
          refine wpAnyH_ready (rs := [7, 10, 11]) (by kernel_rfl) (by simp) ?_
          refine AllReadyH.cons (o := _) rfl (fun K hK => ?_) ?_
          · go_simp
            go_at_call 15
            with_reducible refine (F2.out _ hS.out).mono ?_
            rintro e W3 ⟨A3, c3, rfl, hG, hb⟩
            have hS1 := Lib.hid (hS.out.step hb)
            have h3' := Lib.hid (Gr.of hG)
            have h2' := Lib.hid (h2.out.step hb)
            clear hS hG hb h2
            have hS := hS1
            have h3 := h3'
            have h2 := h2'
            clear hS1 h3' h2'
            refine hK.out _ _ hS.out (fun _ => ?_)
            clear hK K
            try simp only [Act.put, List.setIfInBounds_toArray, List.set_cons_zero, List.set_cons_succ]
            refine wpAnyH_ready (rs := [9, 10, 11]) (by kernel_rfl) (by simp) ?_
            refine AllReadyH.cons (o := _) rfl (fun K hK => ?_) ?_
            · go_simp
              go_at_call 15
              with_reducible refine (F4.out _ _ _ h3.out.group).mono ?_
              rintro e W4 ⟨A4, c4, rfl, hG, hb⟩
              have hS1 := Lib.hid (hS.out.step hb)
              have h4' := Lib.hid (Gr.of hG)
              have h2' := Lib.hid (h2.out.step hb)
              clear hS hG hb h2 h3
              have hS := hS1
              have h4 := h4'
              have h2 := h2'
              clear hS1 h4' h2'
              refine hK.out _ _ hS.out (fun _ => ?_)
              clear hK K
              try simp only [Act.put, List.setIfInBounds_toArray, List.set_cons_zero, List.set_cons_succ]
              refine wpAnyH_ready (rs := [10, 11]) (by kernel_rfl) (by simp) ?_
              refine AllReadyH.cons (o := _) rfl (fun K hK => ?_) ?_
              · go_simp
                obtain ⟨W5, hW⟩ : ∃ V, W4.alloc (.cells #[.int .i64 0, .slice none 0 0] 24) = V := ⟨_, rfl⟩
                have hb := belowG W4
                have hB := Bx.new hS.out
                have hX1 : Hid (Bx w W4.heap.size _) := hB
                have hS1 := Lib.hid (hS.out.step hb)
                have h2' := Lib.hid (h2.out.step hb)
                have x2 : Hid (W4.heap.size < W1.heap.size ∨ W2.heap.size ≤ W4.heap.size) := Or.inr h2.out.2
                have h4' := Lib.hid (h4.out.step hb)
                have x4 : Hid (W4.heap.size < W3.heap.size ∨ W4.heap.size ≤ W4.heap.size) := Or.inr h4.out.2
                clear hS hb hB h2 h4
                rw [hW] at hS1 hX1 h2' h4' ⊢
                have hS := hS1
                have hX := hX1
                have h2 := h2'
                have h4 := h4'
                clear hW hS1 hX1 h2' h4'
                refine hK.out _ _ hS.out (fun _ => ?_)
                clear hK K
                try simp only [Act.put, List.setIfInBounds_toArray, List.set_cons_zero, List.set_cons_succ]
                refine wpAnyH_ready (rs := [11]) (by kernel_rfl) (by simp) ?_
                refine AllReadyH.cons (o := _) rfl (fun K hK => ?_) ?_
                · go_simp
                  obtain ⟨W6, hW⟩ : ∃ V, W5.alloc (.cells #[.int .i64 0, .slice none 0 0] 24) = V := ⟨_, rfl⟩
                  have hb := belowG W5
                  have hB := Bx.new hS.out
                  have hY1 : Hid (Bx w W5.heap.size _) := hB
                  have hS1 := Lib.hid (hS.out.step hb)
                  have hX1 := Lib.hid (hX.out.step hb)
                  have hXY : Hid (W4.heap.size ≠ W5.heap.size) := Nat.ne_of_lt hX.out.2.1
                  have h2' := Lib.hid (h2.out.step hb)
                  have y2 : Hid (W5.heap.size < W1.heap.size ∨ W2.heap.size ≤ W5.heap.size) := Or.inr h2.out.2
                  have h4' := Lib.hid (h4.out.step hb)
                  have y4 : Hid (W5.heap.size < W3.heap.size ∨ W4.heap.size ≤ W5.heap.size) := Or.inr h4.out.2
                  clear hS hb hB hX h2 h4
                  rw [hW] at hS1 hX1 hY1 h2' h4' ⊢
                  have hS := hS1
                  have hX := hX1
                  have hY := hY1
                  have h2 := h2'
                  have h4 := h4'
                  clear hW hS1 hX1 hY1 h2' h4'
                  refine hK.out _ _ hS.out (fun _ => ?_)
                  clear hK K
                  try simp only [Act.put, List.setIfInBounds_toArray, List.set_cons_zero, List.set_cons_succ]
                  obtain ⟨kx0, kx1, kx2, kx3⟩ := hX.out.2.2
                  obtain ⟨ky0, ky1, ky2, ky3⟩ := hY.out.2.2
                  have hxy := hXY.out
                  have hyx := Ne.symm hXY.out
                  refine wpAnyH_ready (rs := [12]) (by kernel_rfl) (by simp) ?_
                  refine AllReadyH.cons (o := _) rfl (fun K hK => ?_) AllReadyH.nil
                  go_simp
                  refine hK.out _ _ ((hS.out.set hX.out.1 0 _).set hX.out.1 1 _) (fun _ => ?_)
                  clear hK K
                  try simp only [Act.put, List.setIfInBounds_toArray, List.set_cons_zero, List.set_cons_succ]
                  refine wpAnyH_ready (rs := [13]) (by kernel_rfl) (by simp) ?_
                  refine AllReadyH.cons (o := _) rfl (fun K hK => ?_) AllReadyH.nil
                  go_simp
                  refine hK.out _ _ ((((hS.out.set hX.out.1 0 _).set hX.out.1 1 _).set hY.out.1 0 _).set hY.out.1 1 _) (fun _ => ?_)
                  clear hK K kx0 kx1 kx2 kx3 ky0 ky1 ky2 ky3
                  try simp only [Act.put, List.setIfInBounds_toArray, List.set_cons_zero, List.set_cons_succ]
                  refine wpAnyH_done (by kernel_rfl) ?_ _
                  refine NoPanic.normal ?_
                  go_wp2_with fail
                  go_meet
                  exact two_of hS.out hX.out hY.out hXY.out h2.out h4.out x2.out x4.out y2.out y4.out
                exact AllReadyH.nil
              refine AllReadyH.cons (o := _) rfl (fun K hK => ?_) ?_
              · go_simp
                obtain ⟨W5, hW⟩ : ∃ V, W4.alloc (.cells #[.int .i64 0, .slice none 0 0] 24) = V := ⟨_, rfl⟩
                have hb := belowG W4
                have hB := Bx.new hS.out
                have hY1 : Hid (Bx w W4.heap.size _) := hB
                have hS1 := Lib.hid (hS.out.step hb)
                have h2' := Lib.hid (h2.out.step hb)
                have y2 : Hid (W4.heap.size < W1.heap.size ∨ W2.heap.size ≤ W4.heap.size) := Or.inr h2.out.2
                have h4' := Lib.hid (h4.out.step hb)
                have y4 : Hid (W4.heap.size < W3.heap.size ∨ W4.heap.size ≤ W4.heap.size) := Or.inr h4.out.2
                clear hS hb hB h2 h4
                rw [hW] at hS1 hY1 h2' h4' ⊢
                have hS := hS1
                have hY := hY1
                have h2 := h2'
                have h4 := h4'
                clear hW hS1 hY1 h2' h4'
                refine hK.out _ _ hS.out (fun _ => ?_)
                clear hK K
                try simp only [Act.put, List.setIfInBounds_toArray, List.set_cons_zero, List.set_cons_succ]
                refine wpAnyH_ready (rs := [10]) (by kernel_rfl) (by simp) ?_
                refine AllReadyH.cons (o := _) rfl (fun K hK => ?_) ?_
                · go_simp
                  obtain ⟨W6, hW⟩ : ∃ V, W5.alloc (.cells #[.int .i64 0, .slice none 0 0] 24) = V := ⟨_, rfl⟩
                  have hb := belowG W5
                  have hB := Bx.new hS.out
                  have hX1 : Hid (Bx w W5.heap.size _) := hB
                  have hS1 := Lib.hid (hS.out.step hb)
                  have hY1 := Lib.hid (hY.out.step hb)
                  have hXY : Hid (W5.heap.size ≠ W4.heap.size) := Ne.symm (Nat.ne_of_lt hY.out.2.1)
                  have h2' := Lib.hid (h2.out.step hb)
                  have x2 : Hid (W5.heap.size < W1.heap.size ∨ W2.heap.size ≤ W5.heap.size) := Or.inr h2.out.2
                  have h4' := Lib.hid (h4.out.step hb)
                  have x4 : Hid (W5.heap.size < W3.heap.size ∨ W4.heap.size ≤ W5.heap.size) := Or.inr h4.out.2
                  clear hS hb hB hY h2 h4
                  rw [hW] at hS1 hX1 hY1 h2' h4' ⊢
                  have hS := hS1
                  have hX := hX1
                  have hY := hY1
                  have h2 := h2'
                  have h4 := h4'
                  clear hW hS1 hX1 hY1 h2' h4'
                  refine hK.out _ _ hS.out (fun _ => ?_)
                  clear hK K
                  try simp only [Act.put, List.setIfInBounds_toArray, List.set_cons_zero, List.set_cons_succ]
                  obtain ⟨kx0, kx1, kx2, kx3⟩ := hX.out.2.2
                  obtain ⟨ky0, ky1, ky2, ky3⟩ := hY.out.2.2
                  have hxy := hXY.out
                  have hyx := Ne.symm hXY.out
                  refine wpAnyH_ready (rs := [12]) (by kernel_rfl) (by simp) ?_
                  refine AllReadyH.cons (o := _) rfl (fun K hK => ?_) AllReadyH.nil
                  go_simp
                  refine hK.out _ _ ((hS.out.set hX.out.1 0 _).set hX.out.1 1 _) (fun _ => ?_)
                  clear hK K
                  try simp only [Act.put, List.setIfInBounds_toArray, List.set_cons_zero, List.set_cons_succ]
                  refine wpAnyH_ready (rs := [13]) (by kernel_rfl) (by simp) ?_
                  refine AllReadyH.cons (o := _) rfl (fun K hK => ?_) AllReadyH.nil
                  go_simp
                  refine hK.out _ _ ((((hS.out.set hX.out.1 0 _).set hX.out.1 1 _).set hY.out.1 0 _).set hY.out.1 1 _) (fun _ => ?_)
                  clear hK K kx0 kx1 kx2 kx3 ky0 ky1 ky2 ky3
                  try simp only [Act.put, List.setIfInBounds_toArray, List.set_cons_zero, List.set_cons_succ]
                  refine wpAnyH_done (by kernel_rfl) ?_ _
                  refine NoPanic.normal ?_
                  go_wp2_with fail
                  go_meet
                  exact two_of hS.out hX.out hY.out hXY.out h2.out h4.out x2.out x4.out y2.out y4.out
                exact AllReadyH.nil
              exact AllReadyH.nil
            refine AllReadyH.cons (o := _) rfl (fun K hK => ?_) ?_
            · go_simp
              obtain ⟨W4, hW⟩ : ∃ V, W3.alloc (.cells #[.int .i64 0, .slice none 0 0] 24) = V := ⟨_, rfl⟩
              have hb := belowG W3
              have hB := Bx.new hS.out
              have hX1 : Hid (Bx w W3.heap.size _) := hB
              have hS1 := Lib.hid (hS.out.step hb)
              have h2' := Lib.hid (h2.out.step hb)
              have x2 : Hid (W3.heap.size < W1.heap.size ∨ W2.heap.size ≤ W3.heap.size) := Or.inr h2.out.2
              have h3' := Lib.hid (h3.out.step hb)
              clear hS hb hB h2 h3
              rw [hW] at hS1 hX1 h2' h3' ⊢
              have hS := hS1
              have hX := hX1
              have h2 := h2'
              have h3 := h3'
              clear hW hS1 hX1 h2' h3'
              refine hK.out _ _ hS.out (fun _ => ?_)
              clear hK K
              try simp only [Act.put, List.setIfInBounds_toArray, List.set_cons_zero, List.set_cons_succ]
              refine wpAnyH_ready (rs := [9, 11]) (by kernel_rfl) (by simp) ?_
              refine AllReadyH.cons (o := _) rfl (fun K hK => ?_) ?_
              · go_simp
                go_at_call 15
                with_reducible refine (F4.out _ _ _ h3.out.group).mono ?_
                rintro e W5 ⟨A4, c4, rfl, hG, hb⟩
                have hS1 := Lib.hid (hS.out.step hb)
                have h4' := Lib.hid (Gr.of hG)
                have h2' := Lib.hid (h2.out.step hb)
                have hX1 := Lib.hid (hX.out.step hb)
                have x4 : Hid (W3.heap.size < W4.heap.size ∨ W5.heap.size ≤ W3.heap.size) := Or.inl hX.out.2.1
                clear hS hG hb hX h2 h3
                have hS := hS1
                have h4 := h4'
                have h2 := h2'
                have hX := hX1
                clear hS1 h4' h2' hX1
                refine hK.out _ _ hS.out (fun _ => ?_)
                clear hK K
                try simp only [Act.put, List.setIfInBounds_toArray, List.set_cons_zero, List.set_cons_succ]
                refine wpAnyH_ready (rs := [11]) (by kernel_rfl) (by simp) ?_
                refine AllReadyH.cons (o := _) rfl (fun K hK => ?_) ?_
                · go_simp
                  obtain ⟨W6, hW⟩ : ∃ V, W5.alloc (.cells #[.int .i64 0, .slice none 0 0] 24) = V := ⟨_, rfl⟩
                  have hb := belowG W5
                  have hB := Bx.new hS.out
                  have hY1 : Hid (Bx w W5.heap.size _) := hB
                  have hS1 := Lib.hid (hS.out.step hb)
                  have hX1 := Lib.hid (hX.out.step hb)
                  have hXY : Hid (W3.heap.size ≠ W5.heap.size) := Nat.ne_of_lt hX.out.2.1
                  have h2' := Lib.hid (h2.out.step hb)
                  have y2 : Hid (W5.heap.size < W1.heap.size ∨ W2.heap.size ≤ W5.heap.size) := Or.inr h2.out.2
                  have h4' := Lib.hid (h4.out.step hb)
                  have y4 : Hid (W5.heap.size < W4.heap.size ∨ W5.heap.size ≤ W5.heap.size) := Or.inr h4.out.2
                  clear hS hb hB hX h2 h4
                  rw [hW] at hS1 hX1 hY1 h2' h4' ⊢
                  have hS := hS1
                  have hX := hX1
                  have hY := hY1
                  have h2 := h2'
                  have h4 := h4'
                  clear hW hS1 hX1 hY1 h2' h4'
                  refine hK.out _ _ hS.out (fun _ => ?_)
                  clear hK K
                  try simp only [Act.put, List.setIfInBounds_toArray, List.set_cons_zero, List.set_cons_succ]
                  obtain ⟨kx0, kx1, kx2, kx3⟩ := hX.out.2.2
                  obtain ⟨ky0, ky1, ky2, ky3⟩ := hY.out.2.2
                  have hxy := hXY.out
                  have hyx := Ne.symm hXY.out
                  refine wpAnyH_ready (rs := [12]) (by kernel_rfl) (by simp) ?_
                  refine AllReadyH.cons (o := _) rfl (fun K hK => ?_) AllReadyH.nil
                  go_simp
                  refine hK.out _ _ ((hS.out.set hX.out.1 0 _).set hX.out.1 1 _) (fun _ => ?_)
                  clear hK K
                  try simp only [Act.put, List.setIfInBounds_toArray, List.set_cons_zero, List.set_cons_succ]
                  refine wpAnyH_ready (rs := [13]) (by kernel_rfl) (by simp) ?_
                  refine AllReadyH.cons (o := _) rfl (fun K hK => ?_) AllReadyH.nil
                  go_simp
                  refine hK.out _ _ ((((hS.out.set hX.out.1 0 _).set hX.out.1 1 _).set hY.out.1 0 _).set hY.out.1 1 _) (fun _ => ?_)
                  clear hK K kx0 kx1 kx2 kx3 ky0 ky1 ky2 ky3
                  try simp only [Act.put, List.setIfInBounds_toArray, List.set_cons_zero, List.set_cons_succ]
                  refine wpAnyH_done (by kernel_rfl) ?_ _
                  refine NoPanic.normal ?_
                  go_wp2_with fail
                  go_meet
                  exact two_of hS.out hX.out hY.out hXY.out h2.out h4.out x2.out x4.out y2.out y4.out
                exact AllReadyH.nil
              refine AllReadyH.cons (o := _) rfl (fun K hK => ?_) ?_
              · go_simp
                obtain ⟨W5, hW⟩ : ∃ V, W4.alloc (.cells #[.int .i64 0, .slice none 0 0] 24) = V := ⟨_, rfl⟩
                have hb := belowG W4
                have hB := Bx.new hS.out
                have hY1 : Hid (Bx w W4.heap.size _) := hB
                have hS1 := Lib.hid (hS.out.step hb)
                have hX1 := Lib.hid (hX.out.step hb)
                have hXY : Hid (W3.heap.size ≠ W4.heap.size) := Nat.ne_of_lt hX.out.2.1
                have h2' := Lib.hid (h2.out.step hb)
                have y2 : Hid (W4.heap.size < W1.heap.size ∨ W2.heap.size ≤ W4.heap.size) := Or.inr h2.out.2
                have h3' := Lib.hid (h3.out.step hb)
                clear hS hb hB hX h2 h3
                rw [hW] at hS1 hX1 hY1 h2' h3' ⊢
                have hS := hS1
                have hX := hX1
                have hY := hY1
                have h2 := h2'
                have h3 := h3'
                clear hW hS1 hX1 hY1 h2' h3'
                refine hK.out _ _ hS.out (fun _ => ?_)
                clear hK K
                try simp only [Act.put, List.setIfInBounds_toArray, List.set_cons_zero, List.set_cons_succ]
                refine wpAnyH_ready (rs := [9]) (by kernel_rfl) (by simp) ?_
                refine AllReadyH.cons (o := _) rfl (fun K hK => ?_) ?_
                · go_simp
                  go_at_call 15
                  with_reducible refine (F4.out _ _ _ h3.out.group).mono ?_
                  rintro e W6 ⟨A4, c4, rfl, hG, hb⟩
                  have hS1 := Lib.hid (hS.out.step hb)
                  have h4' := Lib.hid (Gr.of hG)
                  have h2' := Lib.hid (h2.out.step hb)
                  have hX1 := Lib.hid (hX.out.step hb)
                  have x4 : Hid (W3.heap.size < W5.heap.size ∨ W6.heap.size ≤ W3.heap.size) := Or.inl hX.out.2.1
                  have hY1 := Lib.hid (hY.out.step hb)
                  have y4 : Hid (W4.heap.size < W5.heap.size ∨ W6.heap.size ≤ W4.heap.size) := Or.inl hY.out.2.1
                  clear hS hG hb hX hY h2 h3
                  have hS := hS1
                  have h4 := h4'
                  have h2 := h2'
                  have hX := hX1
                  have hY := hY1
                  clear hS1 h4' h2' hX1 hY1
                  refine hK.out _ _ hS.out (fun _ => ?_)
                  clear hK K
                  try simp only [Act.put, List.setIfInBounds_toArray, List.set_cons_zero, List.set_cons_succ]
                  obtain ⟨kx0, kx1, kx2, kx3⟩ := hX.out.2.2
                  obtain ⟨ky0, ky1, ky2, ky3⟩ := hY.out.2.2
                  have hxy := hXY.out
                  have hyx := Ne.symm hXY.out
                  refine wpAnyH_ready (rs := [12]) (by kernel_rfl) (by simp) ?_
                  refine AllReadyH.cons (o := _) rfl (fun K hK => ?_) AllReadyH.nil
                  go_simp
                  refine hK.out _ _ ((hS.out.set hX.out.1 0 _).set hX.out.1 1 _) (fun _ => ?_)
                  clear hK K
                  try simp only [Act.put, List.setIfInBounds_toArray, List.set_cons_zero, List.set_cons_succ]
                  refine wpAnyH_ready (rs := [13]) (by kernel_rfl) (by simp) ?_
                  refine AllReadyH.cons (o := _) rfl (fun K hK => ?_) AllReadyH.nil
                  go_simp
                  refine hK.out _ _ ((((hS.out.set hX.out.1 0 _).set hX.out.1 1 _).set hY.out.1 0 _).set hY.out.1 1 _) (fun _ => ?_)
                  clear hK K kx0 kx1 kx2 kx3 ky0 ky1 ky2 ky3
                  try simp only [Act.put, List.setIfInBounds_toArray, List.set_cons_zero, List.set_cons_succ]
                  refine wpAnyH_done (by kernel_rfl) ?_ _
                  refine NoPanic.normal ?_
                  go_wp2_with fail
                  go_meet
                  exact two_of hS.out hX.out hY.out hXY.out h2.out h4.out x2.out x4.out y2.out y4.out
                exact AllReadyH.nil
              exact AllReadyH.nil
            refine AllReadyH.cons (o := _) rfl (fun K hK => ?_) ?_
            · go_simp
              obtain ⟨W4, hW⟩ : ∃ V, W3.alloc (.cells #[.int .i64 0, .slice none 0 0] 24) = V := ⟨_, rfl⟩
              have hb := belowG W3
              have hB := Bx.new hS.out
              have hY1 : Hid (Bx w W3.heap.size _) := hB
              have hS1 := Lib.hid (hS.out.step hb)
              have h2' := Lib.hid (h2.out.step hb)
              have y2 : Hid (W3.heap.size < W1.heap.size ∨ W2.heap.size ≤ W3.heap.size) := Or.inr h2.out.2
              have h3' := Lib.hid (h3.out.step hb)
              clear hS hb hB h2 h3
              rw [hW] at hS1 hY1 h2' h3' ⊢
              have hS := hS1
              have hY := hY1
              have h2 := h2'
              have h3 := h3'
              clear hW hS1 hY1 h2' h3'
              refine hK.out _ _ hS.out (fun _ => ?_)
              clear hK K
              try simp only [Act.put, List.setIfInBounds_toArray, List.set_cons_zero, List.set_cons_succ]
              refine wpAnyH_ready (rs := [9, 10]) (by kernel_rfl) (by simp) ?_
              refine AllReadyH.cons (o := _) rfl (fun K hK => ?_) ?_
              · go_simp
                go_at_call 15
                with_reducible refine (F4.out _ _ _ h3.out.group).mono ?_
                rintro e W5 ⟨A4, c4, rfl, hG, hb⟩
                have hS1 := Lib.hid (hS.out.step hb)
                have h4' := Lib.hid (Gr.of hG)
                have h2' := Lib.hid (h2.out.step hb)
                have hY1 := Lib.hid (hY.out.step hb)
                have y4 : Hid (W3.heap.size < W4.heap.size ∨ W5.heap.size ≤ W3.heap.size) := Or.inl hY.out.2.1
                clear hS hG hb hY h2 h3
                have hS := hS1
                have h4 := h4'
                have h2 := h2'
                have hY := hY1
                clear hS1 h4' h2' hY1
                refine hK.out _ _ hS.out (fun _ => ?_)
                clear hK K
                try simp only [Act.put, List.setIfInBounds_toArray, List.set_cons_zero, List.set_cons_succ]
                refine wpAnyH_ready (rs := [10]) (by kernel_rfl) (by simp) ?_
                refine AllReadyH.cons (o := _) rfl (fun K hK => ?_) ?_
                · go_simp
                  obtain ⟨W6, hW⟩ : ∃ V, W5.alloc (.cells #[.int .i64 0, .slice none 0 0] 24) = V := ⟨_, rfl⟩
                  have hb := belowG W5
                  have hB := Bx.new hS.out
                  have hX1 : Hid (Bx w W5.heap.size _) := hB
                  have hS1 := Lib.hid (hS.out.step hb)
                  have hY1 := Lib.hid (hY.out.step hb)
                  have hXY : Hid (W5.heap.size ≠ W3.heap.size) := Ne.symm (Nat.ne_of_lt hY.out.2.1)
                  have h2' := Lib.hid (h2.out.step hb)
                  have x2 : Hid (W5.heap.size < W1.heap.size ∨ W2.heap.size ≤ W5.heap.size) := Or.inr h2.out.2
                  have h4' := Lib.hid (h4.out.step hb)
                  have x4 : Hid (W5.heap.size < W4.heap.size ∨ W5.heap.size ≤ W5.heap.size) := Or.inr h4.out.2
                  clear hS hb hB hY h2 h4
                  rw [hW] at hS1 hX1 hY1 h2' h4' ⊢
                  have hS := hS1
                  have hX := hX1
                  have hY := hY1
                  have h2 := h2'
                  have h4 := h4'
                  clear hW hS1 hX1 hY1 h2' h4'
                  refine hK.out _ _ hS.out (fun _ => ?_)
                  clear hK K
                  try simp only [Act.put, List.setIfInBounds_toArray, List.set_cons_zero, List.set_cons_succ]
                  obtain ⟨kx0, kx1, kx2, kx3⟩ := hX.out.2.2
                  obtain ⟨ky0, ky1, ky2, ky3⟩ := hY.out.2.2
                  have hxy := hXY.out
                  have hyx := Ne.symm hXY.out
                  refine wpAnyH_ready (rs := [12]) (by kernel_rfl) (by simp) ?_
                  refine AllReadyH.cons (o := _) rfl (fun K hK => ?_) AllReadyH.nil
                  go_simp
                  refine hK.out _ _ ((hS.out.set hX.out.1 0 _).set hX.out.1 1 _) (fun _ => ?_)
                  clear hK K
                  try simp only [Act.put, List.setIfInBounds_toArray, List.set_cons_zero, List.set_cons_succ]
                  refine wpAnyH_ready (rs := [13]) (by kernel_rfl) (by simp) ?_
                  refine AllReadyH.cons (o := _) rfl (fun K hK => ?_) AllReadyH.nil
                  go_simp
                  refine hK.out _ _ ((((hS.out.set hX.out.1 0 _).set hX.out.1 1 _).set hY.out.1 0 _).set hY.out.1 1 _) (fun _ => ?_)
                  clear hK K kx0 kx1 kx2 kx3 ky0 ky1 ky2 ky3
                  try simp only [Act.put, List.setIfInBounds_toArray, List.set_cons_zero, List.set_cons_succ]
                  refine wpAnyH_done (by kernel_rfl) ?_ _
                  refine NoPanic.normal ?_
                  go_wp2_with fail
                  go_meet
                  exact two_of hS.out hX.out hY.out hXY.out h2.out h4.out x2.out x4.out y2.out y4.out
                exact AllReadyH.nil
              refine AllReadyH.cons (o := _) rfl (fun K hK => ?_) ?_
              · go_simp
                obtain ⟨W5, hW⟩ : ∃ V, W4.alloc (.cells #[.int .i64 0, .slice none 0 0] 24) = V := ⟨_, rfl⟩
                have hb := belowG W4
                have hB := Bx.new hS.out
                have hX1 : Hid (Bx w W4.heap.size _) := hB
                have hS1 := Lib.hid (hS.out.step hb)
                have hY1 := Lib.hid (hY.out.step hb)
                have hXY : Hid (W4.heap.size ≠ W3.heap.size) := Ne.symm (Nat.ne_of_lt hY.out.2.1)
                have h2' := Lib.hid (h2.out.step hb)
                have x2 : Hid (W4.heap.size < W1.heap.size ∨ W2.heap.size ≤ W4.heap.size) := Or.inr h2.out.2
                have h3' := Lib.hid (h3.out.step hb)
                clear hS hb hB hY h2 h3
                rw [hW] at hS1 hX1 hY1 h2' h3' ⊢
                have hS := hS1
                have hX := hX1
                have hY := hY1
                have h2 := h2'
                have h3 := h3'
                clear hW hS1 hX1 hY1 h2' h3'
                refine hK.out _ _ hS.out (fun _ => ?_)
                clear hK K
                try simp only [Act.put, List.setIfInBounds_toArray, List.set_cons_zero, List.set_cons_succ]
                refine wpAnyH_ready (rs := [9]) (by kernel_rfl) (by simp) ?_
                refine AllReadyH.cons (o := _) rfl (fun K hK => ?_) ?_
                · go_simp
                  go_at_call 15
                  with_reducible refine (F4.out _ _ _ h3.out.group).mono ?_
                  rintro e W6 ⟨A4, c4, rfl, hG, hb⟩
                  have hS1 := Lib.hid (hS.out.step hb)
                  have h4' := Lib.hid (Gr.of hG)
                  have h2' := Lib.hid (h2.out.step hb)
                  have hX1 := Lib.hid (hX.out.step hb)
                  have x4 : Hid (W4.heap.size < W5.heap.size ∨ W6.heap.size ≤ W4.heap.size) := Or.inl hX.out.2.1
                  have hY1 := Lib.hid (hY.out.step hb)
                  have y4 : Hid (W3.heap.size < W5.heap.size ∨ W6.heap.size ≤ W3.heap.size) := Or.inl hY.out.2.1
                  clear hS hG hb hX hY h2 h3
                  have hS := hS1
                  have h4 := h4'
                  have h2 := h2'
                  have hX := hX1
                  have hY := hY1
                  clear hS1 h4' h2' hX1 hY1
                  refine hK.out _ _ hS.out (fun _ => ?_)
                  clear hK K
                  try simp only [Act.put, List.setIfInBounds_toArray, List.set_cons_zero, List.set_cons_succ]
                  obtain ⟨kx0, kx1, kx2, kx3⟩ := hX.out.2.2
                  obtain ⟨ky0, ky1, ky2, ky3⟩ := hY.out.2.2
                  have hxy := hXY.out
                  have hyx := Ne.symm hXY.out
                  refine wpAnyH_ready (rs := [12]) (by kernel_rfl) (by simp) ?_
                  refine AllReadyH.cons (o := _) rfl (fun K hK => ?_) AllReadyH.nil
                  go_simp
                  refine hK.out _ _ ((hS.out.set hX.out.1 0 _).set hX.out.1 1 _) (fun _ => ?_)
                  clear hK K
                  try simp only [Act.put, List.setIfInBounds_toArray, List.set_cons_zero, List.set_cons_succ]
                  refine wpAnyH_ready (rs := [13]) (by kernel_rfl) (by simp) ?_
                  refine AllReadyH.cons (o := _) rfl (fun K hK => ?_) AllReadyH.nil
                  go_simp
                  refine hK.out _ _ ((((hS.out.set hX.out.1 0 _).set hX.out.1 1 _).set hY.out.1 0 _).set hY.out.1 1 _) (fun _ => ?_)
                  clear hK K kx0 kx1 kx2 kx3 ky0 ky1 ky2 ky3
                  try simp only [Act.put, List.setIfInBounds_toArray, List.set_cons_zero, List.set_cons_succ]
                  refine wpAnyH_done (by kernel_rfl) ?_ _
                  refine NoPanic.normal ?_
                  go_wp2_with fail
                  go_meet
                  exact two_of hS.out hX.out hY.out hXY.out h2.out h4.out x2.out x4.out y2.out y4.out
                exact AllReadyH.nil
              exact AllReadyH.nil
            exact AllReadyH.nil
          refine AllReadyH.cons (o := _) rfl (fun K hK => ?_) ?_
          · go_simp
            obtain ⟨W3, hW⟩ : ∃ V, W2.alloc (.cells #[.int .i64 0, .slice none 0 0] 24) = V := ⟨_, rfl⟩
            have hb := belowG W2
            have hB := Bx.new hS.out
            have hX1 : Hid (Bx w W2.heap.size _) := hB
            have hS1 := Lib.hid (hS.out.step hb)
            have h2' := Lib.hid (h2.out.step hb)
            have x2 : Hid (W2.heap.size < W1.heap.size ∨ W2.heap.size ≤ W2.heap.size) := Or.inr h2.out.2
            clear hS hb hB h2
            rw [hW] at hS1 hX1 h2' ⊢
            have hS := hS1
            have hX := hX1
            have h2 := h2'
            clear hW hS1 hX1 h2'
            refine hK.out _ _ hS.out (fun _ => ?_)
            clear hK K
            try simp only [Act.put, List.setIfInBounds_toArray, List.set_cons_zero, List.set_cons_succ]
            refine wpAnyH_ready (rs := [7, 11]) (by kernel_rfl) (by simp) ?_
            refine AllReadyH.cons (o := _) rfl (fun K hK => ?_) ?_
            · go_simp
              go_at_call 15
              with_reducible refine (F2.out _ hS.out).mono ?_
              rintro e W4 ⟨A3, c3, rfl, hG, hb⟩
              have hS1 := Lib.hid (hS.out.step hb)
              have h3' := Lib.hid (Gr.of hG)
              have h2' := Lib.hid (h2.out.step hb)
              have hX1 := Lib.hid (hX.out.step hb)
              clear hS hG hb hX h2
              have hS := hS1
              have h3 := h3'
              have h2 := h2'
              have hX := hX1
              clear hS1 h3' h2' hX1
              refine hK.out _ _ hS.out (fun _ => ?_)
              clear hK K
              try simp only [Act.put, List.setIfInBounds_toArray, List.set_cons_zero, List.set_cons_succ]
              refine wpAnyH_ready (rs := [9, 11]) (by kernel_rfl) (by simp) ?_
              refine AllReadyH.cons (o := _) rfl (fun K hK => ?_) ?_
              · go_simp
                go_at_call 15
                with_reducible refine (F4.out _ _ _ h3.out.group).mono ?_
                rintro e W5 ⟨A4, c4, rfl, hG, hb⟩
                have hS1 := Lib.hid (hS.out.step hb)
                have h4' := Lib.hid (Gr.of hG)
                have h2' := Lib.hid (h2.out.step hb)
                have hX1 := Lib.hid (hX.out.step hb)
                have x4 : Hid (W2.heap.size < W4.heap.size ∨ W5.heap.size ≤ W2.heap.size) := Or.inl hX.out.2.1
                clear hS hG hb hX h2 h3
                have hS := hS1
                have h4 := h4'
                have h2 := h2'
                have hX := hX1
                clear hS1 h4' h2' hX1
                refine hK.out _ _ hS.out (fun _ => ?_)
                clear hK K
                try simp only [Act.put, List.setIfInBounds_toArray, List.set_cons_zero, List.set_cons_succ]
                refine wpAnyH_ready (rs := [11]) (by kernel_rfl) (by simp) ?_
                refine AllReadyH.cons (o := _) rfl (fun K hK => ?_) ?_
                · go_simp
                  obtain ⟨W6, hW⟩ : ∃ V, W5.alloc (.cells #[.int .i64 0, .slice none 0 0] 24) = V := ⟨_, rfl⟩
                  have hb := belowG W5
                  have hB := Bx.new hS.out
                  have hY1 : Hid (Bx w W5.heap.size _) := hB
                  have hS1 := Lib.hid (hS.out.step hb)
                  have hX1 := Lib.hid (hX.out.step hb)
                  have hXY : Hid (W2.heap.size ≠ W5.heap.size) := Nat.ne_of_lt hX.out.2.1
                  have h2' := Lib.hid (h2.out.step hb)
                  have y2 : Hid (W5.heap.size < W1.heap.size ∨ W2.heap.size ≤ W5.heap.size) := Or.inr h2.out.2
                  have h4' := Lib.hid (h4.out.step hb)
                  have y4 : Hid (W5.heap.size < W4.heap.size ∨ W5.heap.size ≤ W5.heap.size) := Or.inr h4.out.2
                  clear hS hb hB hX h2 h4
                  rw [hW] at hS1 hX1 hY1 h2' h4' ⊢
                  have hS := hS1
                  have hX := hX1
                  have hY := hY1
                  have h2 := h2'
                  have h4 := h4'
                  clear hW hS1 hX1 hY1 h2' h4'
                  refine hK.out _ _ hS.out (fun _ => ?_)
                  clear hK K
                  try simp only [Act.put, List.setIfInBounds_toArray, List.set_cons_zero, List.set_cons_succ]
                  obtain ⟨kx0, kx1, kx2, kx3⟩ := hX.out.2.2
                  obtain ⟨ky0, ky1, ky2, ky3⟩ := hY.out.2.2
                  have hxy := hXY.out
                  have hyx := Ne.symm hXY.out
                  refine wpAnyH_ready (rs := [12]) (by kernel_rfl) (by simp) ?_
                  refine AllReadyH.cons (o := _) rfl (fun K hK => ?_) AllReadyH.nil
                  go_simp
                  refine hK.out _ _ ((hS.out.set hX.out.1 0 _).set hX.out.1 1 _) (fun _ => ?_)
                  clear hK K
                  try simp only [Act.put, List.setIfInBounds_toArray, List.set_cons_zero, List.set_cons_succ]
                  refine wpAnyH_ready (rs := [13]) (by kernel_rfl) (by simp) ?_
                  refine AllReadyH.cons (o := _) rfl (fun K hK => ?_) AllReadyH.nil
                  go_simp
                  refine hK.out _ _ ((((hS.out.set hX.out.1 0 _).set hX.out.1 1 _).set hY.out.1 0 _).set hY.out.1 1 _) (fun _ => ?_)
                  clear hK K kx0 kx1 kx2 kx3 ky0 ky1 ky2 ky3
                  try simp only [Act.put, List.setIfInBounds_toArray, List.set_cons_zero, List.set_cons_succ]
                  refine wpAnyH_done (by kernel_rfl) ?_ _
                  refine NoPanic.normal ?_
                  go_wp2_with fail
                  go_meet
                  exact two_of hS.out hX.out hY.out hXY.out h2.out h4.out x2.out x4.out y2.out y4.out
                exact AllReadyH.nil
              refine AllReadyH.cons (o := _) rfl (fun K hK => ?_) ?_
              · go_simp
                obtain ⟨W5, hW⟩ : ∃ V, W4.alloc (.cells #[.int .i64 0, .slice none 0 0] 24) = V := ⟨_, rfl⟩
                have hb := belowG W4
                have hB := Bx.new hS.out
                have hY1 : Hid (Bx w W4.heap.size _) := hB
                have hS1 := Lib.hid (hS.out.step hb)
                have hX1 := Lib.hid (hX.out.step hb)
                have hXY : Hid (W2.heap.size ≠ W4.heap.size) := Nat.ne_of_lt hX.out.2.1
                have h2' := Lib.hid (h2.out.step hb)
                have y2 : Hid (W4.heap.size < W1.heap.size ∨ W2.heap.size ≤ W4.heap.size) := Or.inr h2.out.2
                have h3' := Lib.hid (h3.out.step hb)
                clear hS hb hB hX h2 h3
                rw [hW] at hS1 hX1 hY1 h2' h3' ⊢
                have hS := hS1
                have hX := hX1
                have hY := hY1
                have h2 := h2'
                have h3 := h3'
                clear hW hS1 hX1 hY1 h2' h3'
                refine hK.out _ _ hS.out (fun _ => ?_)
                clear hK K
                try simp only [Act.put, List.setIfInBounds_toArray, List.set_cons_zero, List.set_cons_succ]
                refine wpAnyH_ready (rs := [9]) (by kernel_rfl) (by simp) ?_
                refine AllReadyH.cons (o := _) rfl (fun K hK => ?_) ?_
                · go_simp
                  go_at_call 15
                  with_reducible refine (F4.out _ _ _ h3.out.group).mono ?_
                  rintro e W6 ⟨A4, c4, rfl, hG, hb⟩
                  have hS1 := Lib.hid (hS.out.step hb)
                  have h4' := Lib.hid (Gr.of hG)
                  have h2' := Lib.hid (h2.out.step hb)
                  have hX1 := Lib.hid (hX.out.step hb)
                  have x4 : Hid (W2.heap.size < W5.heap.size ∨ W6.heap.size ≤ W2.heap.size) := Or.inl hX.out.2.1
                  have hY1 := Lib.hid (hY.out.step hb)
                  have y4 : Hid (W4.heap.size < W5.heap.size ∨ W6.heap.size ≤ W4.heap.size) := Or.inl hY.out.2.1
                  clear hS hG hb hX hY h2 h3
                  have hS := hS1
                  have h4 := h4'
                  have h2 := h2'
                  have hX := hX1
                  have hY := hY1
                  clear hS1 h4' h2' hX1 hY1
                  refine hK.out _ _ hS.out (fun _ => ?_)
                  clear hK K
                  try simp only [Act.put, List.setIfInBounds_toArray, List.set_cons_zero, List.set_cons_succ]
                  obtain ⟨kx0, kx1, kx2, kx3⟩ := hX.out.2.2
                  obtain ⟨ky0, ky1, ky2, ky3⟩ := hY.out.2.2
                  have hxy := hXY.out
                  have hyx := Ne.symm hXY.out
                  refine wpAnyH_ready (rs := [12]) (by kernel_rfl) (by simp) ?_
                  refine AllReadyH.cons (o := _) rfl (fun K hK => ?_) AllReadyH.nil
                  go_simp
                  refine hK.out _ _ ((hS.out.set hX.out.1 0 _).set hX.out.1 1 _) (fun _ => ?_)
                  clear hK K
                  try simp only [Act.put, List.setIfInBounds_toArray, List.set_cons_zero, List.set_cons_succ]
                  refine wpAnyH_ready (rs := [13]) (by kernel_rfl) (by simp) ?_
                  refine AllReadyH.cons (o := _) rfl (fun K hK => ?_) AllReadyH.nil
                  go_simp
                  refine hK.out _ _ ((((hS.out.set hX.out.1 0 _).set hX.out.1 1 _).set hY.out.1 0 _).set hY.out.1 1 _) (fun _ => ?_)
                  clear hK K kx0 kx1 kx2 kx3 ky0 ky1 ky2 ky3
                  try simp only [Act.put, List.setIfInBounds_toArray, List.set_cons_zero, List.set_cons_succ]
                  refine wpAnyH_done (by kernel_rfl) ?_ _
                  refine NoPanic.normal ?_
                  go_wp2_with fail
                  go_meet
                  exact two_of hS.out hX.out hY.out hXY.out h2.out h4.out x2.out x4.out y2.out y4.out
                exact AllReadyH.nil
              exact AllReadyH.nil
            refine AllReadyH.cons (o := _) rfl (fun K hK => ?_) ?_
            · go_simp
              obtain ⟨W4, hW⟩ : ∃ V, W3.alloc (.cells #[.int .i64 0, .slice none 0 0] 24) = V := ⟨_, rfl⟩
              have hb := belowG W3
              have hB := Bx.new hS.out
              have hY1 : Hid (Bx w W3.heap.size _) := hB
              have hS1 := Lib.hid (hS.out.step hb)
              have hX1 := Lib.hid (hX.out.step hb)
              have hXY : Hid (W2.heap.size ≠ W3.heap.size) := Nat.ne_of_lt hX.out.2.1
              have h2' := Lib.hid (h2.out.step hb)
              have y2 : Hid (W3.heap.size < W1.heap.size ∨ W2.heap.size ≤ W3.heap.size) := Or.inr h2.out.2
              clear hS hb hB hX h2
              rw [hW] at hS1 hX1 hY1 h2' ⊢
              have hS := hS1
              have hX := hX1
              have hY := hY1
              have h2 := h2'
              clear hW hS1 hX1 hY1 h2'
              refine hK.out _ _ hS.out (fun _ => ?_)
              clear hK K
              try simp only [Act.put, List.setIfInBounds_toArray, List.set_cons_zero, List.set_cons_succ]
              refine wpAnyH_ready (rs := [7]) (by kernel_rfl) (by simp) ?_
              refine AllReadyH.cons (o := _) rfl (fun K hK => ?_) ?_
              · go_simp
                go_at_call 15
                with_reducible refine (F2.out _ hS.out).mono ?_
                rintro e W5 ⟨A3, c3, rfl, hG, hb⟩
                have hS1 := Lib.hid (hS.out.step hb)
                have h3' := Lib.hid (Gr.of hG)
                have h2' := Lib.hid (h2.out.step hb)
                have hX1 := Lib.hid (hX.out.step hb)
                have hY1 := Lib.hid (hY.out.step hb)
                clear hS hG hb hX hY h2
                have hS := hS1
                have h3 := h3'
                have h2 := h2'
                have hX := hX1
                have hY := hY1
                clear hS1 h3' h2' hX1 hY1
                refine hK.out _ _ hS.out (fun _ => ?_)
                clear hK K
                try simp only [Act.put, List.setIfInBounds_toArray, List.set_cons_zero, List.set_cons_succ]
                refine wpAnyH_ready (rs := [9]) (by kernel_rfl) (by simp) ?_
                refine AllReadyH.cons (o := _) rfl (fun K hK => ?_) ?_
                · go_simp
                  go_at_call 15
                  with_reducible refine (F4.out _ _ _ h3.out.group).mono ?_
                  rintro e W6 ⟨A4, c4, rfl, hG, hb⟩
                  have hS1 := Lib.hid (hS.out.step hb)
                  have h4' := Lib.hid (Gr.of hG)
                  have h2' := Lib.hid (h2.out.step hb)
                  have hX1 := Lib.hid (hX.out.step hb)
                  have x4 : Hid (W2.heap.size < W5.heap.size ∨ W6.heap.size ≤ W2.heap.size) := Or.inl hX.out.2.1
                  have hY1 := Lib.hid (hY.out.step hb)
                  have y4 : Hid (W3.heap.size < W5.heap.size ∨ W6.heap.size ≤ W3.heap.size) := Or.inl hY.out.2.1
                  clear hS hG hb hX hY h2 h3
                  have hS := hS1
                  have h4 := h4'
                  have h2 := h2'
                  have hX := hX1
                  have hY := hY1
                  clear hS1 h4' h2' hX1 hY1
                  refine hK.out _ _ hS.out (fun _ => ?_)
                  clear hK K
                  try simp only [Act.put, List.setIfInBounds_toArray, List.set_cons_zero, List.set_cons_succ]
                  obtain ⟨kx0, kx1, kx2, kx3⟩ := hX.out.2.2
                  obtain ⟨ky0, ky1, ky2, ky3⟩ := hY.out.2.2
                  have hxy := hXY.out
                  have hyx := Ne.symm hXY.out
                  refine wpAnyH_ready (rs := [12]) (by kernel_rfl) (by simp) ?_
                  refine AllReadyH.cons (o := _) rfl (fun K hK => ?_) AllReadyH.nil
                  go_simp
                  refine hK.out _ _ ((hS.out.set hX.out.1 0 _).set hX.out.1 1 _) (fun _ => ?_)
                  clear hK K
                  try simp only [Act.put, List.setIfInBounds_toArray, List.set_cons_zero, List.set_cons_succ]
                  refine wpAnyH_ready (rs := [13]) (by kernel_rfl) (by simp) ?_
                  refine AllReadyH.cons (o := _) rfl (fun K hK => ?_) AllReadyH.nil
                  go_simp
                  refine hK.out _ _ ((((hS.out.set hX.out.1 0 _).set hX.out.1 1 _).set hY.out.1 0 _).set hY.out.1 1 _) (fun _ => ?_)
                  clear hK K kx0 kx1 kx2 kx3 ky0 ky1 ky2 ky3
                  try simp only [Act.put, List.setIfInBounds_toArray, List.set_cons_zero, List.set_cons_succ]
                  refine wpAnyH_done (by kernel_rfl) ?_ _
                  refine NoPanic.normal ?_
                  go_wp2_with fail
                  go_meet
                  exact two_of hS.out hX.out hY.out hXY.out h2.out h4.out x2.out x4.out y2.out y4.out
                exact AllReadyH.nil
              exact AllReadyH.nil
            exact AllReadyH.nil
          refine AllReadyH.cons (o := _) rfl (fun K hK => ?_) ?_
          · go_simp
            obtain ⟨W3, hW⟩ : ∃ V, W2.alloc (.cells #[.int .i64 0, .slice none 0 0] 24) = V := ⟨_, rfl⟩
            have hb := belowG W2
            have hB := Bx.new hS.out
            have hY1 : Hid (Bx w W2.heap.size _) := hB
            have hS1 := Lib.hid (hS.out.step hb)
            have h2' := Lib.hid (h2.out.step hb)
            have y2 : Hid (W2.heap.size < W1.heap.size ∨ W2.heap.size ≤ W2.heap.size) := Or.inr h2.out.2
            clear hS hb hB h2
            rw [hW] at hS1 hY1 h2' ⊢
            have hS := hS1
            have hY := hY1
            have h2 := h2'
            clear hW hS1 hY1 h2'
            refine hK.out _ _ hS.out (fun _ => ?_)
            clear hK K
            try simp only [Act.put, List.setIfInBounds_toArray, List.set_cons_zero, List.set_cons_succ]
            refine wpAnyH_ready (rs := [7, 10]) (by kernel_rfl) (by simp) ?_
            refine AllReadyH.cons (o := _) rfl (fun K hK => ?_) ?_
            · go_simp
              go_at_call 15
              with_reducible refine (F2.out _ hS.out).mono ?_
              rintro e W4 ⟨A3, c3, rfl, hG, hb⟩
              have hS1 := Lib.hid (hS.out.step hb)
              have h3' := Lib.hid (Gr.of hG)
              have h2' := Lib.hid (h2.out.step hb)
              have hY1 := Lib.hid (hY.out.step hb)
              clear hS hG hb hY h2
              have hS := hS1
              have h3 := h3'
              have h2 := h2'
              have hY := hY1
              clear hS1 h3' h2' hY1
              refine hK.out _ _ hS.out (fun _ => ?_)
              clear hK K
              try simp only [Act.put, List.setIfInBounds_toArray, List.set_cons_zero, List.set_cons_succ]
              refine wpAnyH_ready (rs := [9, 10]) (by kernel_rfl) (by simp) ?_
              refine AllReadyH.cons (o := _) rfl (fun K hK => ?_) ?_
              · go_simp
                go_at_call 15
                with_reducible refine (F4.out _ _ _ h3.out.group).mono ?_
                rintro e W5 ⟨A4, c4, rfl, hG, hb⟩
                have hS1 := Lib.hid (hS.out.step hb)
                have h4' := Lib.hid (Gr.of hG)
                have h2' := Lib.hid (h2.out.step hb)
                have hY1 := Lib.hid (hY.out.step hb)
                have y4 : Hid (W2.heap.size < W4.heap.size ∨ W5.heap.size ≤ W2.heap.size) := Or.inl hY.out.2.1
                clear hS hG hb hY h2 h3
                have hS := hS1
                have h4 := h4'
                have h2 := h2'
                have hY := hY1
                clear hS1 h4' h2' hY1
                refine hK.out _ _ hS.out (fun _ => ?_)
                clear hK K
                try simp only [Act.put, List.setIfInBounds_toArray, List.set_cons_zero, List.set_cons_succ]
                refine wpAnyH_ready (rs := [10]) (by kernel_rfl) (by simp) ?_
                refine AllReadyH.cons (o := _) rfl (fun K hK => ?_) ?_
                · go_simp
                  obtain ⟨W6, hW⟩ : ∃ V, W5.alloc (.cells #[.int .i64 0, .slice none 0 0] 24) = V := ⟨_, rfl⟩
                  have hb := belowG W5
                  have hB := Bx.new hS.out
                  have hX1 : Hid (Bx w W5.heap.size _) := hB
                  have hS1 := Lib.hid (hS.out.step hb)
                  have hY1 := Lib.hid (hY.out.step hb)
                  have hXY : Hid (W5.heap.size ≠ W2.heap.size) := Ne.symm (Nat.ne_of_lt hY.out.2.1)
                  have h2' := Lib.hid (h2.out.step hb)
                  have x2 : Hid (W5.heap.size < W1.heap.size ∨ W2.heap.size ≤ W5.heap.size) := Or.inr h2.out.2
                  have h4' := Lib.hid (h4.out.step hb)
                  have x4 : Hid (W5.heap.size < W4.heap.size ∨ W5.heap.size ≤ W5.heap.size) := Or.inr h4.out.2
                  clear hS hb hB hY h2 h4
                  rw [hW] at hS1 hX1 hY1 h2' h4' ⊢
                  have hS := hS1
                  have hX := hX1
                  have hY := hY1
                  have h2 := h2'
                  have h4 := h4'
                  clear hW hS1 hX1 hY1 h2' h4'
                  refine hK.out _ _ hS.out (fun _ => ?_)
                  clear hK K
                  try simp only [Act.put, List.setIfInBounds_toArray, List.set_cons_zero, List.set_cons_succ]
                  obtain ⟨kx0, kx1, kx2, kx3⟩ := hX.out.2.2
                  obtain ⟨ky0, ky1, ky2, ky3⟩ := hY.out.2.2
                  have hxy := hXY.out
                  have hyx := Ne.symm hXY.out
                  refine wpAnyH_ready (rs := [12]) (by kernel_rfl) (by simp) ?_
                  refine AllReadyH.cons (o := _) rfl (fun K hK => ?_) AllReadyH.nil
                  go_simp
                  refine hK.out _ _ ((hS.out.set hX.out.1 0 _).set hX.out.1 1 _) (fun _ => ?_)
                  clear hK K
                  try simp only [Act.put, List.setIfInBounds_toArray, List.set_cons_zero, List.set_cons_succ]
                  refine wpAnyH_ready (rs := [13]) (by kernel_rfl) (by simp) ?_
                  refine AllReadyH.cons (o := _) rfl (fun K hK => ?_) AllReadyH.nil
                  go_simp
                  refine hK.out _ _ ((((hS.out.set hX.out.1 0 _).set hX.out.1 1 _).set hY.out.1 0 _).set hY.out.1 1 _) (fun _ => ?_)
                  clear hK K kx0 kx1 kx2 kx3 ky0 ky1 ky2 ky3
                  try simp only [Act.put, List.setIfInBounds_toArray, List.set_cons_zero, List.set_cons_succ]
                  refine wpAnyH_done (by kernel_rfl) ?_ _
                  refine NoPanic.normal ?_
                  go_wp2_with fail
                  go_meet
                  exact two_of hS.out hX.out hY.out hXY.out h2.out h4.out x2.out x4.out y2.out y4.out
                exact AllReadyH.nil
              refine AllReadyH.cons (o := _) rfl (fun K hK => ?_) ?_
              · go_simp
                obtain ⟨W5, hW⟩ : ∃ V, W4.alloc (.cells #[.int .i64 0, .slice none 0 0] 24) = V := ⟨_, rfl⟩
                have hb := belowG W4
                have hB := Bx.new hS.out
                have hX1 : Hid (Bx w W4.heap.size _) := hB
                have hS1 := Lib.hid (hS.out.step hb)
                have hY1 := Lib.hid (hY.out.step hb)
                have hXY : Hid (W4.heap.size ≠ W2.heap.size) := Ne.symm (Nat.ne_of_lt hY.out.2.1)
                have h2' := Lib.hid (h2.out.step hb)
                have x2 : Hid (W4.heap.size < W1.heap.size ∨ W2.heap.size ≤ W4.heap.size) := Or.inr h2.out.2
                have h3' := Lib.hid (h3.out.step hb)
                clear hS hb hB hY h2 h3
                rw [hW] at hS1 hX1 hY1 h2' h3' ⊢
                have hS := hS1
                have hX := hX1
                have hY := hY1
                have h2 := h2'
                have h3 := h3'
                clear hW hS1 hX1 hY1 h2' h3'
                refine hK.out _ _ hS.out (fun _ => ?_)
                clear hK K
                try simp only [Act.put, List.setIfInBounds_toArray, List.set_cons_zero, List.set_cons_succ]
                refine wpAnyH_ready (rs := [9]) (by kernel_rfl) (by simp) ?_
                refine AllReadyH.cons (o := _) rfl (fun K hK => ?_) ?_
                · go_simp
                  go_at_call 15
                  with_reducible refine (F4.out _ _ _ h3.out.group).mono ?_
                  rintro e W6 ⟨A4, c4, rfl, hG, hb⟩
                  have hS1 := Lib.hid (hS.out.step hb)
                  have h4' := Lib.hid (Gr.of hG)
                  have h2' := Lib.hid (h2.out.step hb)
                  have hX1 := Lib.hid (hX.out.step hb)
                  have x4 : Hid (W4.heap.size < W5.heap.size ∨ W6.heap.size ≤ W4.heap.size) := Or.inl hX.out.2.1
                  have hY1 := Lib.hid (hY.out.step hb)
                  have y4 : Hid (W2.heap.size < W5.heap.size ∨ W6.heap.size ≤ W2.heap.size) := Or.inl hY.out.2.1
                  clear hS hG hb hX hY h2 h3
                  have hS := hS1
                  have h4 := h4'
                  have h2 := h2'
                  have hX := hX1
                  have hY := hY1
                  clear hS1 h4' h2' hX1 hY1
                  refine hK.out _ _ hS.out (fun _ => ?_)
                  clear hK K
                  try simp only [Act.put, List.setIfInBounds_toArray, List.set_cons_zero, List.set_cons_succ]
                  obtain ⟨kx0, kx1, kx2, kx3⟩ := hX.out.2.2
                  obtain ⟨ky0, ky1, ky2, ky3⟩ := hY.out.2.2
                  have hxy := hXY.out
                  have hyx := Ne.symm hXY.out
                  refine wpAnyH_ready (rs := [12]) (by kernel_rfl) (by simp) ?_
                  refine AllReadyH.cons (o := _) rfl (fun K hK => ?_) AllReadyH.nil
                  go_simp
                  refine hK.out _ _ ((hS.out.set hX.out.1 0 _).set hX.out.1 1 _) (fun _ => ?_)
                  clear hK K
                  try simp only [Act.put, List.setIfInBounds_toArray, List.set_cons_zero, List.set_cons_succ]
                  refine wpAnyH_ready (rs := [13]) (by kernel_rfl) (by simp) ?_
                  refine AllReadyH.cons (o := _) rfl (fun K hK => ?_) AllReadyH.nil
                  go_simp
                  refine hK.out _ _ ((((hS.out.set hX.out.1 0 _).set hX.out.1 1 _).set hY.out.1 0 _).set hY.out.1 1 _) (fun _ => ?_)
                  clear hK K kx0 kx1 kx2 kx3 ky0 ky1 ky2 ky3
                  try simp only [Act.put, List.setIfInBounds_toArray, List.set_cons_zero, List.set_cons_succ]
                  refine wpAnyH_done (by kernel_rfl) ?_ _
                  refine NoPanic.normal ?_
                  go_wp2_with fail
                  go_meet
                  exact two_of hS.out hX.out hY.out hXY.out h2.out h4.out x2.out x4.out y2.out y4.out
                exact AllReadyH.nil
              exact AllReadyH.nil
            refine AllReadyH.cons (o := _) rfl (fun K hK => ?_) ?_
            · go_simp
              obtain ⟨W4, hW⟩ : ∃ V, W3.alloc (.cells #[.int .i64 0, .slice none 0 0] 24) = V := ⟨_, rfl⟩
              have hb := belowG W3
              have hB := Bx.new hS.out
              have hX1 : Hid (Bx w W3.heap.size _) := hB
              have hS1 := Lib.hid (hS.out.step hb)
              have hY1 := Lib.hid (hY.out.step hb)
              have hXY : Hid (W3.heap.size ≠ W2.heap.size) := Ne.symm (Nat.ne_of_lt hY.out.2.1)
              have h2' := Lib.hid (h2.out.step hb)
              have x2 : Hid (W3.heap.size < W1.heap.size ∨ W2.heap.size ≤ W3.heap.size) := Or.inr h2.out.2
              clear hS hb hB hY h2
              rw [hW] at hS1 hX1 hY1 h2' ⊢
              have hS := hS1
              have hX := hX1
              have hY := hY1
              have h2 := h2'
              clear hW hS1 hX1 hY1 h2'
              refine hK.out _ _ hS.out (fun _ => ?_)
              clear hK K
              try simp only [Act.put, List.setIfInBounds_toArray, List.set_cons_zero, List.set_cons_succ]
              refine wpAnyH_ready (rs := [7]) (by kernel_rfl) (by simp) ?_
              refine AllReadyH.cons (o := _) rfl (fun K hK => ?_) ?_
              · go_simp
                go_at_call 15
                with_reducible refine (F2.out _ hS.out).mono ?_
                rintro e W5 ⟨A3, c3, rfl, hG, hb⟩
                have hS1 := Lib.hid (hS.out.step hb)
                have h3' := Lib.hid (Gr.of hG)
                have h2' := Lib.hid (h2.out.step hb)
                have hX1 := Lib.hid (hX.out.step hb)
                have hY1 := Lib.hid (hY.out.step hb)
                clear hS hG hb hX hY h2
                have hS := hS1
                have h3 := h3'
                have h2 := h2'
                have hX := hX1
                have hY := hY1
                clear hS1 h3' h2' hX1 hY1
                refine hK.out _ _ hS.out (fun _ => ?_)
                clear hK K
                try simp only [Act.put, List.setIfInBounds_toArray, List.set_cons_zero, List.set_cons_succ]
                refine wpAnyH_ready (rs := [9]) (by kernel_rfl) (by simp) ?_
                refine AllReadyH.cons (o := _) rfl (fun K hK => ?_) ?_
                · go_simp
                  go_at_call 15
                  with_reducible refine (F4.out _ _ _ h3.out.group).mono ?_
                  rintro e W6 ⟨A4, c4, rfl, hG, hb⟩
                  have hS1 := Lib.hid (hS.out.step hb)
                  have h4' := Lib.hid (Gr.of hG)
                  have h2' := Lib.hid (h2.out.step hb)
                  have hX1 := Lib.hid (hX.out.step hb)
                  have x4 : Hid (W3.heap.size < W5.heap.size ∨ W6.heap.size ≤ W3.heap.size) := Or.inl hX.out.2.1
                  have hY1 := Lib.hid (hY.out.step hb)
                  have y4 : Hid (W2.heap.size < W5.heap.size ∨ W6.heap.size ≤ W2.heap.size) := Or.inl hY.out.2.1
                  clear hS hG hb hX hY h2 h3
                  have hS := hS1
                  have h4 := h4'
                  have h2 := h2'
                  have hX := hX1
                  have hY := hY1
                  clear hS1 h4' h2' hX1 hY1
                  refine hK.out _ _ hS.out (fun _ => ?_)
                  clear hK K
                  try simp only [Act.put, List.setIfInBounds_toArray, List.set_cons_zero, List.set_cons_succ]
                  obtain ⟨kx0, kx1, kx2, kx3⟩ := hX.out.2.2
                  obtain ⟨ky0, ky1, ky2, ky3⟩ := hY.out.2.2
                  have hxy := hXY.out
                  have hyx := Ne.symm hXY.out
                  refine wpAnyH_ready (rs := [12]) (by kernel_rfl) (by simp) ?_
                  refine AllReadyH.cons (o := _) rfl (fun K hK => ?_) AllReadyH.nil
                  go_simp
                  refine hK.out _ _ ((hS.out.set hX.out.1 0 _).set hX.out.1 1 _) (fun _ => ?_)
                  clear hK K
                  try simp only [Act.put, List.setIfInBounds_toArray, List.set_cons_zero, List.set_cons_succ]
                  refine wpAnyH_ready (rs := [13]) (by kernel_rfl) (by simp) ?_
                  refine AllReadyH.cons (o := _) rfl (fun K hK => ?_) AllReadyH.nil
                  go_simp
                  refine hK.out _ _ ((((hS.out.set hX.out.1 0 _).set hX.out.1 1 _).set hY.out.1 0 _).set hY.out.1 1 _) (fun _ => ?_)
                  clear hK K kx0 kx1 kx2 kx3 ky0 ky1 ky2 ky3
                  try simp only [Act.put, List.setIfInBounds_toArray, List.set_cons_zero, List.set_cons_succ]
                  refine wpAnyH_done (by kernel_rfl) ?_ _
                  refine NoPanic.normal ?_
                  go_wp2_with fail
                  go_meet
                  exact two_of hS.out hX.out hY.out hXY.out h2.out h4.out x2.out x4.out y2.out y4.out
                exact AllReadyH.nil
              exact AllReadyH.nil
            exact AllReadyH.nil
          exact AllReadyH.nil
        refine AllReadyH.cons (o := _) rfl (fun K hK => ?_) ?_
        · go_simp
          obtain ⟨W2, hW⟩ : ∃ V, W1.alloc (.cells #[.int .i64 0, .slice none 0 0] 24) = V := ⟨_, rfl⟩
          have hb := belowG W1
          have hB := Bx.new hS.out
          have hX1 : Hid (Bx w W1.heap.size _) := hB
          have hS1 := Lib.hid (hS.out.step hb)
          have h1' := Lib.hid (h1.out.step hb)
          clear hS hb hB h1
          rw [hW] at hS1 hX1 h1' ⊢
          have hS := hS1
          have hX := hX1
          have h1 := h1'
          clear hW hS1 hX1 h1'
          refine hK.out _ _ hS.out (fun _ => ?_)
          clear hK K
          try simp only [Act.put, List.setIfInBounds_toArray, List.set_cons_zero, List.set_cons_succ]
          refine wpAnyH_ready (rs := [4, 11]) (by kernel_rfl) (by simp) ?_
          refine AllReadyH.cons (o := _) rfl (fun K hK => ?_) ?_
          · go_simp
            go_at_call 15
            with_reducible refine (F3.out _ _ _ h1.out.group).mono ?_
            rintro e W3 ⟨A2, c2, rfl, hG, hb⟩
            have hS1 := Lib.hid (hS.out.step hb)
            have h2' := Lib.hid (Gr.of hG)
            have hX1 := Lib.hid (hX.out.step hb)
            have x2 : Hid (W1.heap.size < W2.heap.size ∨ W3.heap.size ≤ W1.heap.size) := Or.inl hX.out.2.1
            clear hS hG hb hX h1
            have hS := hS1
            have h2 := h2'
            have hX := hX1
            clear hS1 h2' hX1
            refine hK.out _ _ hS.out (fun _ => ?_)
            clear hK K
            try simp only [Act.put, List.setIfInBounds_toArray, List.set_cons_zero, List.set_cons_succ]
            refine wpAnyH_ready (rs := [7, 11]) (by kernel_rfl) (by simp) ?_
            refine AllReadyH.cons (o := _) rfl (fun K hK => ?_) ?_
            · go_simp
              go_at_call 15
              with_reducible refine (F2.out _ hS.out).mono ?_
              rintro e W4 ⟨A3, c3, rfl, hG, hb⟩
              have hS1 := Lib.hid (hS.out.step hb)
              have h3' := Lib.hid (Gr.of hG)
              have h2' := Lib.hid (h2.out.step hb)
              have hX1 := Lib.hid (hX.out.step hb)
              clear hS hG hb hX h2
              have hS := hS1
              have h3 := h3'
              have h2 := h2'
              have hX := hX1
              clear hS1 h3' h2' hX1
              refine hK.out _ _ hS.out (fun _ => ?_)
              clear hK K
              try simp only [Act.put, List.setIfInBounds_toArray, List.set_cons_zero, List.set_cons_succ]
              refine wpAnyH_ready (rs := [9, 11]) (by kernel_rfl) (by simp) ?_
              refine AllReadyH.cons (o := _) rfl (fun K hK => ?_) ?_
              · go_simp
                go_at_call 15
                with_reducible refine (F4.out _ _ _ h3.out.group).mono ?_
                rintro e W5 ⟨A4, c4, rfl, hG, hb⟩
                have hS1 := Lib.hid (hS.out.step hb)
                have h4' := Lib.hid (Gr.of hG)
                have h2' := Lib.hid (h2.out.step hb)
                have hX1 := Lib.hid (hX.out.step hb)
                have x4 : Hid (W1.heap.size < W4.heap.size ∨ W5.heap.size ≤ W1.heap.size) := Or.inl hX.out.2.1
                clear hS hG hb hX h2 h3
                have hS := hS1
                have h4 := h4'
                have h2 := h2'
                have hX := hX1
                clear hS1 h4' h2' hX1
                refine hK.out _ _ hS.out (fun _ => ?_)
                clear hK K
                try simp only [Act.put, List.setIfInBounds_toArray, List.set_cons_zero, List.set_cons_succ]
                refine wpAnyH_ready (rs := [11]) (by kernel_rfl) (by simp) ?_
                refine AllReadyH.cons (o := _) rfl (fun K hK => ?_) ?_
                · go_simp
                  obtain ⟨W6, hW⟩ : ∃ V, W5.alloc (.cells #[.int .i64 0, .slice none 0 0] 24) = V := ⟨_, rfl⟩
                  have hb := belowG W5
                  have hB := Bx.new hS.out
                  have hY1 : Hid (Bx w W5.heap.size _) := hB
                  have hS1 := Lib.hid (hS.out.step hb)
                  have hX1 := Lib.hid (hX.out.step hb)
                  have hXY : Hid (W1.heap.size ≠ W5.heap.size) := Nat.ne_of_lt hX.out.2.1
                  have h2' := Lib.hid (h2.out.step hb)
                  have y2 : Hid (W5.heap.size < W2.heap.size ∨ W3.heap.size ≤ W5.heap.size) := Or.inr h2.out.2
                  have h4' := Lib.hid (h4.out.step hb)
                  have y4 : Hid (W5.heap.size < W4.heap.size ∨ W5.heap.size ≤ W5.heap.size) := Or.inr h4.out.2
                  clear hS hb hB hX h2 h4
                  rw [hW] at hS1 hX1 hY1 h2' h4' ⊢
                  have hS := hS1
                  have hX := hX1
                  have hY := hY1
                  have h2 := h2'
                  have h4 := h4'
                  clear hW hS1 hX1 hY1 h2' h4'
                  refine hK.out _ _ hS.out (fun _ => ?_)
                  clear hK K
                  try simp only [Act.put, List.setIfInBounds_toArray, List.set_cons_zero, List.set_cons_succ]
                  obtain ⟨kx0, kx1, kx2, kx3⟩ := hX.out.2.2
                  obtain ⟨ky0, ky1, ky2, ky3⟩ := hY.out.2.2
                  have hxy := hXY.out
                  have hyx := Ne.symm hXY.out
                  refine wpAnyH_ready (rs := [12]) (by kernel_rfl) (by simp) ?_
                  refine AllReadyH.cons (o := _) rfl (fun K hK => ?_) AllReadyH.nil
                  go_simp
                  refine hK.out _ _ ((hS.out.set hX.out.1 0 _).set hX.out.1 1 _) (fun _ => ?_)
                  clear hK K
                  try simp only [Act.put, List.setIfInBounds_toArray, List.set_cons_zero, List.set_cons_succ]
                  refine wpAnyH_ready (rs := [13]) (by kernel_rfl) (by simp) ?_
                  refine AllReadyH.cons (o := _) rfl (fun K hK => ?_) AllReadyH.nil
                  go_simp
                  refine hK.out _ _ ((((hS.out.set hX.out.1 0 _).set hX.out.1 1 _).set hY.out.1 0 _).set hY.out.1 1 _) (fun _ => ?_)
                  clear hK K kx0 kx1 kx2 kx3 ky0 ky1 ky2 ky3
                  try simp only [Act.put, List.setIfInBounds_toArray, List.set_cons_zero, List.set_cons_succ]
                  refine wpAnyH_done (by kernel_rfl) ?_ _
                  refine NoPanic.normal ?_
                  go_wp2_with fail
                  go_meet
                  exact two_of hS.out hX.out hY.out hXY.out h2.out h4.out x2.out x4.out y2.out y4.out
                exact AllReadyH.nil
              refine AllReadyH.cons (o := _) rfl (fun K hK => ?_) ?_
              · go_simp
                obtain ⟨W5, hW⟩ : ∃ V, W4.alloc (.cells #[.int .i64 0, .slice none 0 0] 24) = V := ⟨_, rfl⟩
                have hb := belowG W4
                have hB := Bx.new hS.out
                have hY1 : Hid (Bx w W4.heap.size _) := hB
                have hS1 := Lib.hid (hS.out.step hb)
                have hX1 := Lib.hid (hX.out.step hb)
                have hXY : Hid (W1.heap.size ≠ W4.heap.size) := Nat.ne_of_lt hX.out.2.1
                have h2' := Lib.hid (h2.out.step hb)
                have y2 : Hid (W4.heap.size < W2.heap.size ∨ W3.heap.size ≤ W4.heap.size) := Or.inr h2.out.2
                have h3' := Lib.hid (h3.out.step hb)
                clear hS hb hB hX h2 h3
                rw [hW] at hS1 hX1 hY1 h2' h3' ⊢
                have hS := hS1
                have hX := hX1
                have hY := hY1
                have h2 := h2'
                have h3 := h3'
                clear hW hS1 hX1 hY1 h2' h3'
                refine hK.out _ _ hS.out (fun _ => ?_)
                clear hK K
                try simp only [Act.put, List.setIfInBounds_toArray, List.set_cons_zero, List.set_cons_succ]
                refine wpAnyH_ready (rs := [9]) (by kernel_rfl) (by simp) ?_
                refine AllReadyH.cons (o := _) rfl (fun K hK => ?_) ?_
                · go_simp
                  go_at_call 15
                  with_reducible refine (F4.out _ _ _ h3.out.group).mono ?_
                  rintro e W6 ⟨A4, c4, rfl, hG, hb⟩
                  have hS1 := Lib.hid (hS.out.step hb)
                  have h4' := Lib.hid (Gr.of hG)
                  have h2' := Lib.hid (h2.out.step hb)
                  have hX1 := Lib.hid (hX.out.step hb)
                  have x4 : Hid (W1.heap.size < W5.heap.size ∨ W6.heap.size ≤ W1.heap.size) := Or.inl hX.out.2.1
                  have hY1 := Lib.hid (hY.out.step hb)
                  have y4 : Hid (W4.heap.size < W5.heap.size ∨ W6.heap.size ≤ W4.heap.size) := Or.inl hY.out.2.1
                  clear hS hG hb hX hY h2 h3
                  have hS := hS1
                  have h4 := h4'
                  have h2 := h2'
                  have hX := hX1
                  have hY := hY1
                  clear hS1 h4' h2' hX1 hY1
                  refine hK.out _ _ hS.out (fun _ => ?_)
                  clear hK K
                  try simp only [Act.put, List.setIfInBounds_toArray, List.set_cons_zero, List.set_cons_succ]
                  obtain ⟨kx0, kx1, kx2, kx3⟩ := hX.out.2.2
                  obtain ⟨ky0, ky1, ky2, ky3⟩ := hY.out.2.2
                  have hxy := hXY.out
                  have hyx := Ne.symm hXY.out
                  refine wpAnyH_ready (rs := [12]) (by kernel_rfl) (by simp) ?_
                  refine AllReadyH.cons (o := _) rfl (fun K hK => ?_) AllReadyH.nil
                  go_simp
                  refine hK.out _ _ ((hS.out.set hX.out.1 0 _).set hX.out.1 1 _) (fun _ => ?_)
                  clear hK K
                  try simp only [Act.put, List.setIfInBounds_toArray, List.set_cons_zero, List.set_cons_succ]
                  refine wpAnyH_ready (rs := [13]) (by kernel_rfl) (by simp) ?_
                  refine AllReadyH.cons (o := _) rfl (fun K hK => ?_) AllReadyH.nil
                  go_simp
                  refine hK.out _ _ ((((hS.out.set hX.out.1 0 _).set hX.out.1 1 _).set hY.out.1 0 _).set hY.out.1 1 _) (fun _ => ?_)
                  clear hK K kx0 kx1 kx2 kx3 ky0 ky1 ky2 ky3
                  try simp only [Act.put, List.setIfInBounds_toArray, List.set_cons_zero, List.set_cons_succ]
                  refine wpAnyH_done (by kernel_rfl) ?_ _
                  refine NoPanic.normal ?_
                  go_wp2_with fail
                  go_meet
                  exact two_of hS.out hX.out hY.out hXY.out h2.out h4.out x2.out x4.out y2.out y4.out
                exact AllReadyH.nil
              exact AllReadyH.nil
            refine AllReadyH.cons (o := _) rfl (fun K hK => ?_) ?_
            · go_simp
              obtain ⟨W4, hW⟩ : ∃ V, W3.alloc (.cells #[.int .i64 0, .slice none 0 0] 24) = V := ⟨_, rfl⟩
              have hb := belowG W3
              have hB := Bx.new hS.out
              have hY1 : Hid (Bx w W3.heap.size _) := hB
              have hS1 := Lib.hid (hS.out.step hb)
              have hX1 := Lib.hid (hX.out.step hb)
              have hXY : Hid (W1.heap.size ≠ W3.heap.size) := Nat.ne_of_lt hX.out.2.1
              have h2' := Lib.hid (h2.out.step hb)
              have y2 : Hid (W3.heap.size < W2.heap.size ∨ W3.heap.size ≤ W3.heap.size) := Or.inr h2.out.2
              clear hS hb hB hX h2
              rw [hW] at hS1 hX1 hY1 h2' ⊢
              have hS := hS1
              have hX := hX1
              have hY := hY1
              have h2 := h2'
              clear hW hS1 hX1 hY1 h2'
              refine hK.out _ _ hS.out (fun _ => ?_)
              clear hK K
              try simp only [Act.put, List.setIfInBounds_toArray, List.set_cons_zero, List.set_cons_succ]
              refine wpAnyH_ready (rs := [7]) (by kernel_rfl) (by simp) ?_
              refine AllReadyH.cons (o := _) rfl (fun K hK => ?_) ?_
              · go_simp
                go_at_call 15
                with_reducible refine (F2.out _ hS.out).mono ?_
                rintro e W5 ⟨A3, c3, rfl, hG, hb⟩
                have hS1 := Lib.hid (hS.out.step hb)
                have h3' := Lib.hid (Gr.of hG)
                have h2' := Lib.hid (h2.out.step hb)
                have hX1 := Lib.hid (hX.out.step hb)
                have hY1 := Lib.hid (hY.out.step hb)
                clear hS hG hb hX hY h2
                have hS := hS1
                have h3 := h3'
                have h2 := h2'
                have hX := hX1
                have hY := hY1
                clear hS1 h3' h2' hX1 hY1
                refine hK.out _ _ hS.out (fun _ => ?_)
                clear hK K
                try simp only [Act.put, List.setIfInBounds_toArray, List.set_cons_zero, List.set_cons_succ]
                refine wpAnyH_ready (rs := [9]) (by kernel_rfl) (by simp) ?_
                refine AllReadyH.cons (o := _) rfl (fun K hK => ?_) ?_
                · go_simp
                  go_at_call 15
                  with_reducible refine (F4.out _ _ _ h3.out.group).mono ?_
                  rintro e W6 ⟨A4, c4, rfl, hG, hb⟩
                  have hS1 := Lib.hid (hS.out.step hb)
                  have h4' := Lib.hid (Gr.of hG)
                  have h2' := Lib.hid (h2.out.step hb)
                  have hX1 := Lib.hid (hX.out.step hb)
                  have x4 : Hid (W1.heap.size < W5.heap.size ∨ W6.heap.size ≤ W1.heap.size) := Or.inl hX.out.2.1
                  have hY1 := Lib.hid (hY.out.step hb)
                  have y4 : Hid (W3.heap.size < W5.heap.size ∨ W6.heap.size ≤ W3.heap.size) := Or.inl hY.out.2.1
                  clear hS hG hb hX hY h2 h3
                  have hS := hS1
                  have h4 := h4'
                  have h2 := h2'
                  have hX := hX1
                  have hY := hY1
                  clear hS1 h4' h2' hX1 hY1
                  refine hK.out _ _ hS.out (fun _ => ?_)
                  clear hK K
                  try simp only [Act.put, List.setIfInBounds_toArray, List.set_cons_zero, List.set_cons_succ]
                  obtain ⟨kx0, kx1, kx2, kx3⟩ := hX.out.2.2
                  obtain ⟨ky0, ky1, ky2, ky3⟩ := hY.out.2.2
                  have hxy := hXY.out
                  have hyx := Ne.symm hXY.out
                  refine wpAnyH_ready (rs := [12]) (by kernel_rfl) (by simp) ?_
                  refine AllReadyH.cons (o := _) rfl (fun K hK => ?_) AllReadyH.nil
                  go_simp
                  refine hK.out _ _ ((hS.out.set hX.out.1 0 _).set hX.out.1 1 _) (fun _ => ?_)
                  clear hK K
                  try simp only [Act.put, List.setIfInBounds_toArray, List.set_cons_zero, List.set_cons_succ]
                  refine wpAnyH_ready (rs := [13]) (by kernel_rfl) (by simp) ?_
                  refine AllReadyH.cons (o := _) rfl (fun K hK => ?_) AllReadyH.nil
                  go_simp
                  refine hK.out _ _ ((((hS.out.set hX.out.1 0 _).set hX.out.1 1 _).set hY.out.1 0 _).set hY.out.1 1 _) (fun _ => ?_)
                  clear hK K kx0 kx1 kx2 kx3 ky0 ky1 ky2 ky3
                  try simp only [Act.put, List.setIfInBounds_toArray, List.set_cons_zero, List.set_cons_succ]
                  refine wpAnyH_done (by kernel_rfl) ?_ _
                  refine NoPanic.normal ?_
                  go_wp2_with fail
                  go_meet
                  exact two_of hS.out hX.out hY.out hXY.out h2.out h4.out x2.out x4.out y2.out y4.out
                exact AllReadyH.nil
              exact AllReadyH.nil
            exact AllReadyH.nil
          refine AllReadyH.cons (o := _) rfl (fun K hK => ?_) ?_
          · go_simp
            obtain ⟨W3, hW⟩ : ∃ V, W2.alloc (.cells #[.int .i64 0, .slice none 0 0] 24) = V := ⟨_, rfl⟩
            have hb := belowG W2
            have hB := Bx.new hS.out
            have hY1 : Hid (Bx w W2.heap.size _) := hB
            have hS1 := Lib.hid (hS.out.step hb)
            have hX1 := Lib.hid (hX.out.step hb)
            have hXY : Hid (W1.heap.size ≠ W2.heap.size) := Nat.ne_of_lt hX.out.2.1
            have h1' := Lib.hid (h1.out.step hb)
            clear hS hb hB hX h1
            rw [hW] at hS1 hX1 hY1 h1' ⊢
            have hS := hS1
            have hX := hX1
            have hY := hY1
            have h1 := h1'
            clear hW hS1 hX1 hY1 h1'
            refine hK.out _ _ hS.out (fun _ => ?_)
            clear hK K
            try simp only [Act.put, List.setIfInBounds_toArray, List.set_cons_zero, List.set_cons_succ]
            refine wpAnyH_ready (rs := [4]) (by kernel_rfl) (by simp) ?_
            refine AllReadyH.cons (o := _) rfl (fun K hK => ?_) ?_
            · go_simp
              go_at_call 15
              with_reducible refine (F3.out _ _ _ h1.out.group).mono ?_
              rintro e W4 ⟨A2, c2, rfl, hG, hb⟩
              have hS1 := Lib.hid (hS.out.step hb)
              have h2' := Lib.hid (Gr.of hG)
              have hX1 := Lib.hid (hX.out.step hb)
              have x2 : Hid (W1.heap.size < W3.heap.size ∨ W4.heap.size ≤ W1.heap.size) := Or.inl hX.out.2.1
              have hY1 := Lib.hid (hY.out.step hb)
              have y2 : Hid (W2.heap.size < W3.heap.size ∨ W4.heap.size ≤ W2.heap.size) := Or.inl hY.out.2.1
              clear hS hG hb hX hY h1
              have hS := hS1
              have h2 := h2'
              have hX := hX1
              have hY := hY1
              clear hS1 h2' hX1 hY1
              refine hK.out _ _ hS.out (fun _ => ?_)
              clear hK K
              try simp only [Act.put, List.setIfInBounds_toArray, List.set_cons_zero, List.set_cons_succ]
              refine wpAnyH_ready (rs := [7]) (by kernel_rfl) (by simp) ?_
              refine AllReadyH.cons (o := _) rfl (fun K hK => ?_) ?_
              · go_simp
                go_at_call 15
                with_reducible refine (F2.out _ hS.out).mono ?_
                rintro e W5 ⟨A3, c3, rfl, hG, hb⟩
                have hS1 := Lib.hid (hS.out.step hb)
                have h3' := Lib.hid (Gr.of hG)
                have h2' := Lib.hid (h2.out.step hb)
                have hX1 := Lib.hid (hX.out.step hb)
                have hY1 := Lib.hid (hY.out.step hb)
                clear hS hG hb hX hY h2
                have hS := hS1
                have h3 := h3'
                have h2 := h2'
                have hX := hX1
                have hY := hY1
                clear hS1 h3' h2' hX1 hY1
                refine hK.out _ _ hS.out (fun _ => ?_)
                clear hK K
                try simp only [Act.put, List.setIfInBounds_toArray, List.set_cons_zero, List.set_cons_succ]
                refine wpAnyH_ready (rs := [9]) (by kernel_rfl) (by simp) ?_
                refine AllReadyH.cons (o := _) rfl (fun K hK => ?_) ?_
                · go_simp
                  go_at_call 15
                  with_reducible refine (F4.out _ _ _ h3.out.group).mono ?_
                  rintro e W6 ⟨A4, c4, rfl, hG, hb⟩
                  have hS1 := Lib.hid (hS.out.step hb)
                  have h4' := Lib.hid (Gr.of hG)
                  have h2' := Lib.hid (h2.out.step hb)
                  have hX1 := Lib.hid (hX.out.step hb)
                  have x4 : Hid (W1.heap.size < W5.heap.size ∨ W6.heap.size ≤ W1.heap.size) := Or.inl hX.out.2.1
                  have hY1 := Lib.hid (hY.out.step hb)
                  have y4 : Hid (W2.heap.size < W5.heap.size ∨ W6.heap.size ≤ W2.heap.size) := Or.inl hY.out.2.1
                  clear hS hG hb hX hY h2 h3
                  have hS := hS1
                  have h4 := h4'
                  have h2 := h2'
                  have hX := hX1
                  have hY := hY1
                  clear hS1 h4' h2' hX1 hY1
                  refine hK.out _ _ hS.out (fun _ => ?_)
                  clear hK K
                  try simp only [Act.put, List.setIfInBounds_toArray, List.set_cons_zero, List.set_cons_succ]
                  obtain ⟨kx0, kx1, kx2, kx3⟩ := hX.out.2.2
                  obtain ⟨ky0, ky1, ky2, ky3⟩ := hY.out.2.2
                  have hxy := hXY.out
                  have hyx := Ne.symm hXY.out
                  refine wpAnyH_ready (rs := [12]) (by kernel_rfl) (by simp) ?_
                  refine AllReadyH.cons (o := _) rfl (fun K hK => ?_) AllReadyH.nil
                  go_simp
                  refine hK.out _ _ ((hS.out.set hX.out.1 0 _).set hX.out.1 1 _) (fun _ => ?_)
                  clear hK K
                  try simp only [Act.put, List.setIfInBounds_toArray, List.set_cons_zero, List.set_cons_succ]
                  refine wpAnyH_ready (rs := [13]) (by kernel_rfl) (by simp) ?_
                  refine AllReadyH.cons (o := _) rfl (fun K hK => ?_) AllReadyH.nil
                  go_simp
                  refine hK.out _ _ ((((hS.out.set hX.out.1 0 _).set hX.out.1 1 _).set hY.out.1 0 _).set hY.out.1 1 _) (fun _ => ?_)
                  clear hK K kx0 kx1 kx2 kx3 ky0 ky1 ky2 ky3
                  try simp only [Act.put, List.setIfInBounds_toArray, List.set_cons_zero, List.set_cons_succ]
                  refine wpAnyH_done (by kernel_rfl) ?_ _
                  refine NoPanic.normal ?_
                  go_wp2_with fail
                  go_meet
                  exact two_of hS.out hX.out hY.out hXY.out h2.out h4.out x2.out x4.out y2.out y4.out
                exact AllReadyH.nil
              exact AllReadyH.nil
            exact AllReadyH.nil
          exact AllReadyH.nil
        refine AllReadyH.cons (o := _) rfl (fun K hK => ?_) ?_
        · go_simp
          obtain ⟨W2, hW⟩ : ∃ V, W1.alloc (.cells #[.int .i64 0, .slice none 0 0] 24) = V := ⟨_, rfl⟩
          have hb := belowG W1
          have hB := Bx.new hS.out
          have hY1 : Hid (Bx w W1.heap.size _) := hB
          have hS1 := Lib.hid (hS.out.step hb)
          have h1' := Lib.hid (h1.out.step hb)
          clear hS hb hB h1
          rw [hW] at hS1 hY1 h1' ⊢
          have hS := hS1
          have hY := hY1
          have h1 := h1'
          clear hW hS1 hY1 h1'
          refine hK.out _ _ hS.out (fun _ => ?_)
          clear hK K
          try simp only [Act.put, List.setIfInBounds_toArray, List.set_cons_zero, List.set_cons_succ]
          refine wpAnyH_ready (rs := [4, 10]) (by kernel_rfl) (by simp) ?_
          refine AllReadyH.cons (o := _) rfl (fun K hK => ?_) ?_
          · go_simp
            go_at_call 15
            with_reducible refine (F3.out _ _ _ h1.out.group).mono ?_
            rintro e W3 ⟨A2, c2, rfl, hG, hb⟩
            have hS1 := Lib.hid (hS.out.step hb)
            have h2' := Lib.hid (Gr.of hG)
            have hY1 := Lib.hid (hY.out.step hb)
            have y2 : Hid (W1.heap.size < W2.heap.size ∨ W3.heap.size ≤ W1.heap.size) := Or.inl hY.out.2.1
            clear hS hG hb hY h1
            have hS := hS1
            have h2 := h2'
            have hY := hY1
            clear hS1 h2' hY1
            refine hK.out _ _ hS.out (fun _ => ?_)
            clear hK K
            try simp only [Act.put, List.setIfInBounds_toArray, List.set_cons_zero, List.set_cons_succ]
            refine wpAnyH_ready (rs := [7, 10]) (by kernel_rfl) (by simp) ?_
            refine AllReadyH.cons (o := _) rfl (fun K hK => ?_) ?_
            · go_simp
              go_at_call 15
              with_reducible refine (F2.out _ hS.out).mono ?_
              rintro e W4 ⟨A3, c3, rfl, hG, hb⟩
              have hS1 := Lib.hid (hS.out.step hb)
              have h3' := Lib.hid (Gr.of hG)
              have h2' := Lib.hid (h2.out.step hb)
              have hY1 := Lib.hid (hY.out.step hb)
              clear hS hG hb hY h2
              have hS := hS1
              have h3 := h3'
              have h2 := h2'
              have hY := hY1
              clear hS1 h3' h2' hY1
              refine hK.out _ _ hS.out (fun _ => ?_)
              clear hK K
              try simp only [Act.put, List.setIfInBounds_toArray, List.set_cons_zero, List.set_cons_succ]
              refine wpAnyH_ready (rs := [9, 10]) (by kernel_rfl) (by simp) ?_
              refine AllReadyH.cons (o := _) rfl (fun K hK => ?_) ?_
              · go_simp
                go_at_call 15
                with_reducible refine (F4.out _ _ _ h3.out.group).mono ?_
                rintro e W5 ⟨A4, c4, rfl, hG, hb⟩
                have hS1 := Lib.hid (hS.out.step hb)
                have h4' := Lib.hid (Gr.of hG)
                have h2' := Lib.hid (h2.out.step hb)
                have hY1 := Lib.hid (hY.out.step hb)
                have y4 : Hid (W1.heap.size < W4.heap.size ∨ W5.heap.size ≤ W1.heap.size) := Or.inl hY.out.2.1
                clear hS hG hb hY h2 h3
                have hS := hS1
                have h4 := h4'
                have h2 := h2'
                have hY := hY1
                clear hS1 h4' h2' hY1
                refine hK.out _ _ hS.out (fun _ => ?_)
                clear hK K
                try simp only [Act.put, List.setIfInBounds_toArray, List.set_cons_zero, List.set_cons_succ]
                refine wpAnyH_ready (rs := [10]) (by kernel_rfl) (by simp) ?_
                refine AllReadyH.cons (o := _) rfl (fun K hK => ?_) ?_
                · go_simp
                  obtain ⟨W6, hW⟩ : ∃ V, W5.alloc (.cells #[.int .i64 0, .slice none 0 0] 24) = V := ⟨_, rfl⟩
                  have hb := belowG W5
                  have hB := Bx.new hS.out
                  have hX1 : Hid (Bx w W5.heap.size _) := hB
                  have hS1 := Lib.hid (hS.out.step hb)
                  have hY1 := Lib.hid (hY.out.step hb)
                  have hXY : Hid (W5.heap.size ≠ W1.heap.size) := Ne.symm (Nat.ne_of_lt hY.out.2.1)
                  have h2' := Lib.hid (h2.out.step hb)
                  have x2 : Hid (W5.heap.size < W2.heap.size ∨ W3.heap.size ≤ W5.heap.size) := Or.inr h2.out.2
                  have h4' := Lib.hid (h4.out.step hb)
                  have x4 : Hid (W5.heap.size < W4.heap.size ∨ W5.heap.size ≤ W5.heap.size) := Or.inr h4.out.2
                  clear hS hb hB hY h2 h4
                  rw [hW] at hS1 hX1 hY1 h2' h4' ⊢
                  have hS := hS1
                  have hX := hX1
                  have hY := hY1
                  have h2 := h2'
                  have h4 := h4'
                  clear hW hS1 hX1 hY1 h2' h4'
                  refine hK.out _ _ hS.out (fun _ => ?_)
                  clear hK K
                  try simp only [Act.put, List.setIfInBounds_toArray, List.set_cons_zero, List.set_cons_succ]
                  obtain ⟨kx0, kx1, kx2, kx3⟩ := hX.out.2.2
                  obtain ⟨ky0, ky1, ky2, ky3⟩ := hY.out.2.2
                  have hxy := hXY.out
                  have hyx := Ne.symm hXY.out
                  refine wpAnyH_ready (rs := [12]) (by kernel_rfl) (by simp) ?_
                  refine AllReadyH.cons (o := _) rfl (fun K hK => ?_) AllReadyH.nil
                  go_simp
                  refine hK.out _ _ ((hS.out.set hX.out.1 0 _).set hX.out.1 1 _) (fun _ => ?_)
                  clear hK K
                  try simp only [Act.put, List.setIfInBounds_toArray, List.set_cons_zero, List.set_cons_succ]
                  refine wpAnyH_ready (rs := [13]) (by kernel_rfl) (by simp) ?_
                  refine AllReadyH.cons (o := _) rfl (fun K hK => ?_) AllReadyH.nil
                  go_simp
                  refine hK.out _ _ ((((hS.out.set hX.out.1 0 _).set hX.out.1 1 _).set hY.out.1 0 _).set hY.out.1 1 _) (fun _ => ?_)
                  clear hK K kx0 kx1 kx2 kx3 ky0 ky1 ky2 ky3
                  try simp only [Act.put, List.setIfInBounds_toArray, List.set_cons_zero, List.set_cons_succ]
                  refine wpAnyH_done (by kernel_rfl) ?_ _
                  refine NoPanic.normal ?_
                  go_wp2_with fail
                  go_meet
                  exact two_of hS.out hX.out hY.out hXY.out h2.out h4.out x2.out x4.out y2.out y4.out
                exact AllReadyH.nil
              refine AllReadyH.cons (o := _) rfl (fun K hK => ?_) ?_
              · go_simp
                obtain ⟨W5, hW⟩ : ∃ V, W4.alloc (.cells #[.int .i64 0, .slice none 0 0] 24) = V := ⟨_, rfl⟩
                have hb := belowG W4
                have hB := Bx.new hS.out
                have hX1 : Hid (Bx w W4.heap.size _) := hB
                have hS1 := Lib.hid (hS.out.step hb)
                have hY1 := Lib.hid (hY.out.step hb)
                have hXY : Hid (W4.heap.size ≠ W1.heap.size) := Ne.symm (Nat.ne_of_lt hY.out.2.1)
                have h2' := Lib.hid (h2.out.step hb)
                have x2 : Hid (W4.heap.size < W2.heap.size ∨ W3.heap.size ≤ W4.heap.size) := Or.inr h2.out.2
                have h3' := Lib.hid (h3.out.step hb)
                clear hS hb hB hY h2 h3
                rw [hW] at hS1 hX1 hY1 h2' h3' ⊢
                have hS := hS1
                have hX := hX1
                have hY := hY1
                have h2 := h2'
                have h3 := h3'
                clear hW hS1 hX1 hY1 h2' h3'
                refine hK.out _ _ hS.out (fun _ => ?_)
                clear hK K
                try simp only [Act.put, List.setIfInBounds_toArray, List.set_cons_zero, List.set_cons_succ]
                refine wpAnyH_ready (rs := [9]) (by kernel_rfl) (by simp) ?_
                refine AllReadyH.cons (o := _) rfl (fun K hK => ?_) ?_
                · go_simp
                  go_at_call 15
                  with_reducible refine (F4.out _ _ _ h3.out.group).mono ?_
                  rintro e W6 ⟨A4, c4, rfl, hG, hb⟩
                  have hS1 := Lib.hid (hS.out.step hb)
                  have h4' := Lib.hid (Gr.of hG)
                  have h2' := Lib.hid (h2.out.step hb)
                  have hX1 := Lib.hid (hX.out.step hb)
                  have x4 : Hid (W4.heap.size < W5.heap.size ∨ W6.heap.size ≤ W4.heap.size) := Or.inl hX.out.2.1
                  have hY1 := Lib.hid (hY.out.step hb)
                  have y4 : Hid (W1.heap.size < W5.heap.size ∨ W6.heap.size ≤ W1.heap.size) := Or.inl hY.out.2.1
                  clear hS hG hb hX hY h2 h3
                  have hS := hS1
                  have h4 := h4'
                  have h2 := h2'
                  have hX := hX1
                  have hY := hY1
                  clear hS1 h4' h2' hX1 hY1
                  refine hK.out _ _ hS.out (fun _ => ?_)
                  clear hK K
                  try simp only [Act.put, List.setIfInBounds_toArray, List.set_cons_zero, List.set_cons_succ]
                  obtain ⟨kx0, kx1, kx2, kx3⟩ := hX.out.2.2
                  obtain ⟨ky0, ky1, ky2, ky3⟩ := hY.out.2.2
                  have hxy := hXY.out
                  have hyx := Ne.symm hXY.out
                  refine wpAnyH_ready (rs := [12]) (by kernel_rfl) (by simp) ?_
                  refine AllReadyH.cons (o := _) rfl (fun K hK => ?_) AllReadyH.nil
                  go_simp
                  refine hK.out _ _ ((hS.out.set hX.out.1 0 _).set hX.out.1 1 _) (fun _ => ?_)
                  clear hK K
                  try simp only [Act.put, List.setIfInBounds_toArray, List.set_cons_zero, List.set_cons_succ]
                  refine wpAnyH_ready (rs := [13]) (by kernel_rfl) (by simp) ?_
                  refine AllReadyH.cons (o := _) rfl (fun K hK => ?_) AllReadyH.nil
                  go_simp
                  refine hK.out _ _ ((((hS.out.set hX.out.1 0 _).set hX.out.1 1 _).set hY.out.1 0 _).set hY.out.1 1 _) (fun _ => ?_)
                  clear hK K kx0 kx1 kx2 kx3 ky0 ky1 ky2 ky3
                  try simp only [Act.put, List.setIfInBounds_toArray, List.set_cons_zero, List.set_cons_succ]
                  refine wpAnyH_done (by kernel_rfl) ?_ _
                  refine NoPanic.normal ?_
                  go_wp2_with fail
                  go_meet
                  exact two_of hS.out hX.out hY.out hXY.out h2.out h4.out x2.out x4.out y2.out y4.out
                exact AllReadyH.nil
              exact AllReadyH.nil
            refine AllReadyH.cons (o := _) rfl (fun K hK => ?_) ?_
            · go_simp
              obtain ⟨W4, hW⟩ : ∃ V, W3.alloc (.cells #[.int .i64 0, .slice none 0 0] 24) = V := ⟨_, rfl⟩
              have hb := belowG W3
              have hB := Bx.new hS.out
              have hX1 : Hid (Bx w W3.heap.size _) := hB
              have hS1 := Lib.hid (hS.out.step hb)
              have hY1 := Lib.hid (hY.out.step hb)
              have hXY : Hid (W3.heap.size ≠ W1.heap.size) := Ne.symm (Nat.ne_of_lt hY.out.2.1)
              have h2' := Lib.hid (h2.out.step hb)
              have x2 : Hid (W3.heap.size < W2.heap.size ∨ W3.heap.size ≤ W3.heap.size) := Or.inr h2.out.2
              clear hS hb hB hY h2
              rw [hW] at hS1 hX1 hY1 h2' ⊢
              have hS := hS1
              have hX := hX1
              have hY := hY1
              have h2 := h2'
              clear hW hS1 hX1 hY1 h2'
              refine hK.out _ _ hS.out (fun _ => ?_)
              clear hK K
              try simp only [Act.put, List.setIfInBounds_toArray, List.set_cons_zero, List.set_cons_succ]
              refine wpAnyH_ready (rs := [7]) (by kernel_rfl) (by simp) ?_
              refine AllReadyH.cons (o := _) rfl (fun K hK => ?_) ?_
              · go_simp
                go_at_call 15
                with_reducible refine (F2.out _ hS.out).mono ?_
                rintro e W5 ⟨A3, c3, rfl, hG, hb⟩
                have hS1 := Lib.hid (hS.out.step hb)
                have h3' := Lib.hid (Gr.of hG)
                have h2' := Lib.hid (h2.out.step hb)
                have hX1 := Lib.hid (hX.out.step hb)
                have hY1 := Lib.hid (hY.out.step hb)
                clear hS hG hb hX hY h2
                have hS := hS1
                have h3 := h3'
                have h2 := h2'
                have hX := hX1
                have hY := hY1
                clear hS1 h3' h2' hX1 hY1
                refine hK.out _ _ hS.out (fun _ => ?_)
                clear hK K
                try simp only [Act.put, List.setIfInBounds_toArray, List.set_cons_zero, List.set_cons_succ]
                refine wpAnyH_ready (rs := [9]) (by kernel_rfl) (by simp) ?_
                refine AllReadyH.cons (o := _) rfl (fun K hK => ?_) ?_
                · go_simp
                  go_at_call 15
                  with_reducible refine (F4.out _ _ _ h3.out.group).mono ?_
                  rintro e W6 ⟨A4, c4, rfl, hG, hb⟩
                  have hS1 := Lib.hid (hS.out.step hb)
                  have h4' := Lib.hid (Gr.of hG)
                  have h2' := Lib.hid (h2.out.step hb)
                  have hX1 := Lib.hid (hX.out.step hb)
                  have x4 : Hid (W3.heap.size < W5.heap.size ∨ W6.heap.size ≤ W3.heap.size) := Or.inl hX.out.2.1
                  have hY1 := Lib.hid (hY.out.step hb)
                  have y4 : Hid (W1.heap.size < W5.heap.size ∨ W6.heap.size ≤ W1.heap.size) := Or.inl hY.out.2.1
                  clear hS hG hb hX hY h2 h3
                  have hS := hS1
                  have h4 := h4'
                  have h2 := h2'
                  have hX := hX1
                  have hY := hY1
                  clear hS1 h4' h2' hX1 hY1
                  refine hK.out _ _ hS.out (fun _ => ?_)
                  clear hK K
                  try simp only [Act.put, List.setIfInBounds_toArray, List.set_cons_zero, List.set_cons_succ]
                  obtain ⟨kx0, kx1, kx2, kx3⟩ := hX.out.2.2
                  obtain ⟨ky0, ky1, ky2, ky3⟩ := hY.out.2.2
                  have hxy := hXY.out
                  have hyx := Ne.symm hXY.out
                  refine wpAnyH_ready (rs := [12]) (by kernel_rfl) (by simp) ?_
                  refine AllReadyH.cons (o := _) rfl (fun K hK => ?_) AllReadyH.nil
                  go_simp
                  refine hK.out _ _ ((hS.out.set hX.out.1 0 _).set hX.out.1 1 _) (fun _ => ?_)
                  clear hK K
                  try simp only [Act.put, List.setIfInBounds_toArray, List.set_cons_zero, List.set_cons_succ]
                  refine wpAnyH_ready (rs := [13]) (by kernel_rfl) (by simp) ?_
                  refine AllReadyH.cons (o := _) rfl (fun K hK => ?_) AllReadyH.nil
                  go_simp
                  refine hK.out _ _ ((((hS.out.set hX.out.1 0 _).set hX.out.1 1 _).set hY.out.1 0 _).set hY.out.1 1 _) (fun _ => ?_)
                  clear hK K kx0 kx1 kx2 kx3 ky0 ky1 ky2 ky3
                  try simp only [Act.put, List.setIfInBounds_toArray, List.set_cons_zero, List.set_cons_succ]
                  refine wpAnyH_done (by kernel_rfl) ?_ _
                  refine NoPanic.normal ?_
                  go_wp2_with fail
                  go_meet
                  exact two_of hS.out hX.out hY.out hXY.out h2.out h4.out x2.out x4.out y2.out y4.out
                exact AllReadyH.nil
              exact AllReadyH.nil
            exact AllReadyH.nil
          refine AllReadyH.cons (o := _) rfl (fun K hK => ?_) ?_
          · go_simp
            obtain ⟨W3, hW⟩ : ∃ V, W2.alloc (.cells #[.int .i64 0, .slice none 0 0] 24) = V := ⟨_, rfl⟩
            have hb := belowG W2
            have hB := Bx.new hS.out
            have hX1 : Hid (Bx w W2.heap.size _) := hB
            have hS1 := Lib.hid (hS.out.step hb)
            have hY1 := Lib.hid (hY.out.step hb)
            have hXY : Hid (W2.heap.size ≠ W1.heap.size) := Ne.symm (Nat.ne_of_lt hY.out.2.1)
            have h1' := Lib.hid (h1.out.step hb)
            clear hS hb hB hY h1
            rw [hW] at hS1 hX1 hY1 h1' ⊢
            have hS := hS1
            have hX := hX1
            have hY := hY1
            have h1 := h1'
            clear hW hS1 hX1 hY1 h1'
            refine hK.out _ _ hS.out (fun _ => ?_)
            clear hK K
            try simp only [Act.put, List.setIfInBounds_toArray, List.set_cons_zero, List.set_cons_succ]
            refine wpAnyH_ready (rs := [4]) (by kernel_rfl) (by simp) ?_
            refine AllReadyH.cons (o := _) rfl (fun K hK => ?_) ?_
            · go_simp
              go_at_call 15
              with_reducible refine (F3.out _ _ _ h1.out.group).mono ?_
              rintro e W4 ⟨A2, c2, rfl, hG, hb⟩
              have hS1 := Lib.hid (hS.out.step hb)
              have h2' := Lib.hid (Gr.of hG)
              have hX1 := Lib.hid (hX.out.step hb)
              have x2 : Hid (W2.heap.size < W3.heap.size ∨ W4.heap.size ≤ W2.heap.size) := Or.inl hX.out.2.1
              have hY1 := Lib.hid (hY.out.step hb)
              have y2 : Hid (W1.heap.size < W3.heap.size ∨ W4.heap.size ≤ W1.heap.size) := Or.inl hY.out.2.1
              clear hS hG hb hX hY h1
              have hS := hS1
              have h2 := h2'
              have hX := hX1
              have hY := hY1
              clear hS1 h2' hX1 hY1
              refine hK.out _ _ hS.out (fun _ => ?_)
              clear hK K
              try simp only [Act.put, List.setIfInBounds_toArray, List.set_cons_zero, List.set_cons_succ]
              refine wpAnyH_ready (rs := [7]) (by kernel_rfl) (by simp) ?_
              refine AllReadyH.cons (o := _) rfl (fun K hK => ?_) ?_
              · go_simp
                go_at_call 15
                with_reducible refine (F2.out _ hS.out).mono ?_
                rintro e W5 ⟨A3, c3, rfl, hG, hb⟩
                have hS1 := Lib.hid (hS.out.step hb)
                have h3' := Lib.hid (Gr.of hG)
                have h2' := Lib.hid (h2.out.step hb)
                have hX1 := Lib.hid (hX.out.step hb)
                have hY1 := Lib.hid (hY.out.step hb)
                clear hS hG hb hX hY h2
                have hS := hS1
                have h3 := h3'
                have h2 := h2'
                have hX := hX1
                have hY := hY1
                clear hS1 h3' h2' hX1 hY1
                refine hK.out _ _ hS.out (fun _ => ?_)
                clear hK K
                try simp only [Act.put, List.setIfInBounds_toArray, List.set_cons_zero, List.set_cons_succ]
                refine wpAnyH_ready (rs := [9]) (by kernel_rfl) (by simp) ?_
                refine AllReadyH.cons (o := _) rfl (fun K hK => ?_) ?_
                · go_simp
                  go_at_call 15
                  with_reducible refine (F4.out _ _ _ h3.out.group).mono ?_
                  rintro e W6 ⟨A4, c4, rfl, hG, hb⟩
                  have hS1 := Lib.hid (hS.out.step hb)
                  have h4' := Lib.hid (Gr.of hG)
                  have h2' := Lib.hid (h2.out.step hb)
                  have hX1 := Lib.hid (hX.out.step hb)
                  have x4 : Hid (W2.heap.size < W5.heap.size ∨ W6.heap.size ≤ W2.heap.size) := Or.inl hX.out.2.1
                  have hY1 := Lib.hid (hY.out.step hb)
                  have y4 : Hid (W1.heap.size < W5.heap.size ∨ W6.heap.size ≤ W1.heap.size) := Or.inl hY.out.2.1
                  clear hS hG hb hX hY h2 h3
                  have hS := hS1
                  have h4 := h4'
                  have h2 := h2'
                  have hX := hX1
                  have hY := hY1
                  clear hS1 h4' h2' hX1 hY1
                  refine hK.out _ _ hS.out (fun _ => ?_)
                  clear hK K
                  try simp only [Act.put, List.setIfInBounds_toArray, List.set_cons_zero, List.set_cons_succ]
                  obtain ⟨kx0, kx1, kx2, kx3⟩ := hX.out.2.2
                  obtain ⟨ky0, ky1, ky2, ky3⟩ := hY.out.2.2
                  have hxy := hXY.out
                  have hyx := Ne.symm hXY.out
                  refine wpAnyH_ready (rs := [12]) (by kernel_rfl) (by simp) ?_
                  refine AllReadyH.cons (o := _) rfl (fun K hK => ?_) AllReadyH.nil
                  go_simp
                  refine hK.out _ _ ((hS.out.set hX.out.1 0 _).set hX.out.1 1 _) (fun _ => ?_)
                  clear hK K
                  try simp only [Act.put, List.setIfInBounds_toArray, List.set_cons_zero, List.set_cons_succ]
                  refine wpAnyH_ready (rs := [13]) (by kernel_rfl) (by simp) ?_
                  refine AllReadyH.cons (o := _) rfl (fun K hK => ?_) AllReadyH.nil
                  go_simp
                  refine hK.out _ _ ((((hS.out.set hX.out.1 0 _).set hX.out.1 1 _).set hY.out.1 0 _).set hY.out.1 1 _) (fun _ => ?_)
                  clear hK K kx0 kx1 kx2 kx3 ky0 ky1 ky2 ky3
                  try simp only [Act.put, List.setIfInBounds_toArray, List.set_cons_zero, List.set_cons_succ]
                  refine wpAnyH_done (by kernel_rfl) ?_ _
                  refine NoPanic.normal ?_
                  go_wp2_with fail
                  go_meet
                  exact two_of hS.out hX.out hY.out hXY.out h2.out h4.out x2.out x4.out y2.out y4.out
                exact AllReadyH.nil
              exact AllReadyH.nil
            exact AllReadyH.nil
          exact AllReadyH.nil
        exact AllReadyH.nil
      refine AllReadyH.cons (o := _) rfl (fun K hK => ?_) ?_
      · go_simp
        obtain ⟨W1, hW⟩ : ∃ V, W0.alloc (.cells #[.int .i64 0, .slice none 0 0] 24) = V := ⟨_, rfl⟩
        have hb := belowG W0
        have hB := Bx.new hS.out
        have hX1 : Hid (Bx w W0.heap.size _) := hB
        have hS1 := Lib.hid (hS.out.step hb)
        clear hS hb hB
        rw [hW] at hS1 hX1 ⊢
        have hS := hS1
        have hX := hX1
        clear hW hS1 hX1
        refine hK.out _ _ hS.out (fun _ => ?_)
        clear hK K
        try simp only [Act.put, List.setIfInBounds_toArray, List.set_cons_zero, List.set_cons_succ]
        refine wpAnyH_ready (rs := [2, 11]) (by kernel_rfl) (by simp) ?_
        refine AllReadyH.cons (o := _) rfl (fun K hK => ?_) ?_
        · go_simp
          go_at_call 15
          with_reducible refine (F1.out _ hS.out).mono ?_
          rintro e W2 ⟨A1, c1, rfl, hG, hb⟩
          have hS1 := Lib.hid (hS.out.step hb)
          have h1' := Lib.hid (Gr.of hG)
          have hX1 := Lib.hid (hX.out.step hb)
          clear hS hG hb hX 
          have hS := hS1
          have h1 := h1'
          have hX := hX1
          clear hS1 h1' hX1
          refine hK.out _ _ hS.out (fun _ => ?_)
          clear hK K
          try simp only [Act.put, List.setIfInBounds_toArray, List.set_cons_zero, List.set_cons_succ]
          refine wpAnyH_ready (rs := [4, 11]) (by kernel_rfl) (by simp) ?_
          refine AllReadyH.cons (o := _) rfl (fun K hK => ?_) ?_
          · go_simp
            go_at_call 15
            with_reducible refine (F3.out _ _ _ h1.out.group).mono ?_
            rintro e W3 ⟨A2, c2, rfl, hG, hb⟩
            have hS1 := Lib.hid (hS.out.step hb)
            have h2' := Lib.hid (Gr.of hG)
            have hX1 := Lib.hid (hX.out.step hb)
            have x2 : Hid (W0.heap.size < W2.heap.size ∨ W3.heap.size ≤ W0.heap.size) := Or.inl hX.out.2.1
            clear hS hG hb hX h1
            have hS := hS1
            have h2 := h2'
            have hX := hX1
            clear hS1 h2' hX1
            refine hK.out _ _ hS.out (fun _ => ?_)
            clear hK K
            try simp only [Act.put, List.setIfInBounds_toArray, List.set_cons_zero, List.set_cons_succ]
            refine wpAnyH_ready (rs := [7, 11]) (by kernel_rfl) (by simp) ?_
            refine AllReadyH.cons (o := _) rfl (fun K hK => ?_) ?_
            · go_simp
              go_at_call 15
              with_reducible refine (F2.out _ hS.out).mono ?_
              rintro e W4 ⟨A3, c3, rfl, hG, hb⟩
              have hS1 := Lib.hid (hS.out.step hb)
              have h3' := Lib.hid (Gr.of hG)
              have h2' := Lib.hid (h2.out.step hb)
              have hX1 := Lib.hid (hX.out.step hb)
              clear hS hG hb hX h2
              have hS := hS1
              have h3 := h3'
              have h2 := h2'
              have hX := hX1
              clear hS1 h3' h2' hX1
              refine hK.out _ _ hS.out (fun _ => ?_)
              clear hK K
              try simp only [Act.put, List.setIfInBounds_toArray, List.set_cons_zero, List.set_cons_succ]
              refine wpAnyH_ready (rs := [9, 11]) (by kernel_rfl) (by simp) ?_
              refine AllReadyH.cons (o := _) rfl (fun K hK => ?_) ?_
              · go_simp
                go_at_call 15
                with_reducible refine (F4.out _ _ _ h3.out.group).mono ?_
                rintro e W5 ⟨A4, c4, rfl, hG, hb⟩
                have hS1 := Lib.hid (hS.out.step hb)
                have h4' := Lib.hid (Gr.of hG)
                have h2' := Lib.hid (h2.out.step hb)
                have hX1 := Lib.hid (hX.out.step hb)
                have x4 : Hid (W0.heap.size < W4.heap.size ∨ W5.heap.size ≤ W0.heap.size) := Or.inl hX.out.2.1
                clear hS hG hb hX h2 h3
                have hS := hS1
                have h4 := h4'
                have h2 := h2'
                have hX := hX1
                clear hS1 h4' h2' hX1
                refine hK.out _ _ hS.out (fun _ => ?_)
                clear hK K
                try simp only [Act.put, List.setIfInBounds_toArray, List.set_cons_zero, List.set_cons_succ]
                refine wpAnyH_ready (rs := [11]) (by kernel_rfl) (by simp) ?_
                refine AllReadyH.cons (o := _) rfl (fun K hK => ?_) ?_
                · go_simp
                  obtain ⟨W6, hW⟩ : ∃ V, W5.alloc (.cells #[.int .i64 0, .slice none 0 0] 24) = V := ⟨_, rfl⟩
                  have hb := belowG W5
                  have hB := Bx.new hS.out
                  have hY1 : Hid (Bx w W5.heap.size _) := hB
                  have hS1 := Lib.hid (hS.out.step hb)
                  have hX1 := Lib.hid (hX.out.step hb)
                  have hXY : Hid (W0.heap.size ≠ W5.heap.size) := Nat.ne_of_lt hX.out.2.1
                  have h2' := Lib.hid (h2.out.step hb)
                  have y2 : Hid (W5.heap.size < W2.heap.size ∨ W3.heap.size ≤ W5.heap.size) := Or.inr h2.out.2
                  have h4' := Lib.hid (h4.out.step hb)
                  have y4 : Hid (W5.heap.size < W4.heap.size ∨ W5.heap.size ≤ W5.heap.size) := Or.inr h4.out.2
                  clear hS hb hB hX h2 h4
                  rw [hW] at hS1 hX1 hY1 h2' h4' ⊢
                  have hS := hS1
                  have hX := hX1
                  have hY := hY1
                  have h2 := h2'
                  have h4 := h4'
                  clear hW hS1 hX1 hY1 h2' h4'
                  refine hK.out _ _ hS.out (fun _ => ?_)
                  clear hK K
                  try simp only [Act.put, List.setIfInBounds_toArray, List.set_cons_zero, List.set_cons_succ]
                  obtain ⟨kx0, kx1, kx2, kx3⟩ := hX.out.2.2
                  obtain ⟨ky0, ky1, ky2, ky3⟩ := hY.out.2.2
                  have hxy := hXY.out
                  have hyx := Ne.symm hXY.out
                  refine wpAnyH_ready (rs := [12]) (by kernel_rfl) (by simp) ?_
                  refine AllReadyH.cons (o := _) rfl (fun K hK => ?_) AllReadyH.nil
                  go_simp
                  refine hK.out _ _ ((hS.out.set hX.out.1 0 _).set hX.out.1 1 _) (fun _ => ?_)
                  clear hK K
                  try simp only [Act.put, List.setIfInBounds_toArray, List.set_cons_zero, List.set_cons_succ]
                  refine wpAnyH_ready (rs := [13]) (by kernel_rfl) (by simp) ?_
                  refine AllReadyH.cons (o := _) rfl (fun K hK => ?_) AllReadyH.nil
                  go_simp
                  refine hK.out _ _ ((((hS.out.set hX.out.1 0 _).set hX.out.1 1 _).set hY.out.1 0 _).set hY.out.1 1 _) (fun _ => ?_)
                  clear hK K kx0 kx1 kx2 kx3 ky0 ky1 ky2 ky3
                  try simp only [Act.put, List.setIfInBounds_toArray, List.set_cons_zero, List.set_cons_succ]
                  refine wpAnyH_done (by kernel_rfl) ?_ _
                  refine NoPanic.normal ?_
                  go_wp2_with fail
                  go_meet
                  exact two_of hS.out hX.out hY.out hXY.out h2.out h4.out x2.out x4.out y2.out y4.out
                exact AllReadyH.nil
              refine AllReadyH.cons (o := _) rfl (fun K hK => ?_) ?_
              · go_simp
                obtain ⟨W5, hW⟩ : ∃ V, W4.alloc (.cells #[.int .i64 0, .slice none 0 0] 24) = V := ⟨_, rfl⟩
                have hb := belowG W4
                have hB := Bx.new hS.out
                have hY1 : Hid (Bx w W4.heap.size _) := hB
                have hS1 := Lib.hid (hS.out.step hb)
                have hX1 := Lib.hid (hX.out.step hb)
                have hXY : Hid (W0.heap.size ≠ W4.heap.size) := Nat.ne_of_lt hX.out.2.1
                have h2' := Lib.hid (h2.out.step hb)
                have y2 : Hid (W4.heap.size < W2.heap.size ∨ W3.heap.size ≤ W4.heap.size) := Or.inr h2.out.2
                have h3' := Lib.hid (h3.out.step hb)
                clear hS hb hB hX h2 h3
                rw [hW] at hS1 hX1 hY1 h2' h3' ⊢
                have hS := hS1
                have hX := hX1
                have hY := hY1
                have h2 := h2'
                have h3 := h3'
                clear hW hS1 hX1 hY1 h2' h3'
                refine hK.out _ _ hS.out (fun _ => ?_)
                clear hK K
                try simp only [Act.put, List.setIfInBounds_toArray, List.set_cons_zero, List.set_cons_succ]
                refine wpAnyH_ready (rs := [9]) (by kernel_rfl) (by simp) ?_
                refine AllReadyH.cons (o := _) rfl (fun K hK => ?_) ?_
                · go_simp
                  go_at_call 15
                  with_reducible refine (F4.out _ _ _ h3.out.group).mono ?_
                  rintro e W6 ⟨A4, c4, rfl, hG, hb⟩
                  have hS1 := Lib.hid (hS.out.step hb)
                  have h4' := Lib.hid (Gr.of hG)
                  have h2' := Lib.hid (h2.out.step hb)
                  have hX1 := Lib.hid (hX.out.step hb)
                  have x4 : Hid (W0.heap.size < W5.heap.size ∨ W6.heap.size ≤ W0.heap.size) := Or.inl hX.out.2.1
                  have hY1 := Lib.hid (hY.out.step hb)
                  have y4 : Hid (W4.heap.size < W5.heap.size ∨ W6.heap.size ≤ W4.heap.size) := Or.inl hY.out.2.1
                  clear hS hG hb hX hY h2 h3
                  have hS := hS1
                  have h4 := h4'
                  have h2 := h2'
                  have hX := hX1
                  have hY := hY1
                  clear hS1 h4' h2' hX1 hY1
                  refine hK.out _ _ hS.out (fun _ => ?_)
                  clear hK K
                  try simp only [Act.put, List.setIfInBounds_toArray, List.set_cons_zero, List.set_cons_succ]
                  obtain ⟨kx0, kx1, kx2, kx3⟩ := hX.out.2.2
                  obtain ⟨ky0, ky1, ky2, ky3⟩ := hY.out.2.2
                  have hxy := hXY.out
                  have hyx := Ne.symm hXY.out
                  refine wpAnyH_ready (rs := [12]) (by kernel_rfl) (by simp) ?_
                  refine AllReadyH.cons (o := _) rfl (fun K hK => ?_) AllReadyH.nil
                  go_simp
                  refine hK.out _ _ ((hS.out.set hX.out.1 0 _).set hX.out.1 1 _) (fun _ => ?_)
                  clear hK K
                  try simp only [Act.put, List.setIfInBounds_toArray, List.set_cons_zero, List.set_cons_succ]
                  refine wpAnyH_ready (rs := [13]) (by kernel_rfl) (by simp) ?_
                  refine AllReadyH.cons (o := _) rfl (fun K hK => ?_) AllReadyH.nil
                  go_simp
                  refine hK.out _ _ ((((hS.out.set hX.out.1 0 _).set hX.out.1 1 _).set hY.out.1 0 _).set hY.out.1 1 _) (fun _ => ?_)
                  clear hK K kx0 kx1 kx2 kx3 ky0 ky1 ky2 ky3
                  try simp only [Act.put, List.setIfInBounds_toArray, List.set_cons_zero, List.set_cons_succ]
                  refine wpAnyH_done (by kernel_rfl) ?_ _
                  refine NoPanic.normal ?_
                  go_wp2_with fail
                  go_meet
                  exact two_of hS.out hX.out hY.out hXY.out h2.out h4.out x2.out x4.out y2.out y4.out
                exact AllReadyH.nil
              exact AllReadyH.nil
            refine AllReadyH.cons (o := _) rfl (fun K hK => ?_) ?_
            · go_simp
              obtain ⟨W4, hW⟩ : ∃ V, W3.alloc (.cells #[.int .i64 0, .slice none 0 0] 24) = V := ⟨_, rfl⟩
              have hb := belowG W3
              have hB := Bx.new hS.out
              have hY1 : Hid (Bx w W3.heap.size _) := hB
              have hS1 := Lib.hid (hS.out.step hb)
              have hX1 := Lib.hid (hX.out.step hb)
              have hXY : Hid (W0.heap.size ≠ W3.heap.size) := Nat.ne_of_lt hX.out.2.1
              have h2' := Lib.hid (h2.out.step hb)
              have y2 : Hid (W3.heap.size < W2.heap.size ∨ W3.heap.size ≤ W3.heap.size) := Or.inr h2.out.2
              clear hS hb hB hX h2
              rw [hW] at hS1 hX1 hY1 h2' ⊢
              have hS := hS1
              have hX := hX1
              have hY := hY1
              have h2 := h2'
              clear hW hS1 hX1 hY1 h2'
              refine hK.out _ _ hS.out (fun _ => ?_)
              clear hK K
              try simp only [Act.put, List.setIfInBounds_toArray, List.set_cons_zero, List.set_cons_succ]
              refine wpAnyH_ready (rs := [7]) (by kernel_rfl) (by simp) ?_
              refine AllReadyH.cons (o := _) rfl (fun K hK => ?_) ?_
              · go_simp
                go_at_call 15
                with_reducible refine (F2.out _ hS.out).mono ?_
                rintro e W5 ⟨A3, c3, rfl, hG, hb⟩
                have hS1 := Lib.hid (hS.out.step hb)
                have h3' := Lib.hid (Gr.of hG)
                have h2' := Lib.hid (h2.out.step hb)
                have hX1 := Lib.hid (hX.out.step hb)
                have hY1 := Lib.hid (hY.out.step hb)
                clear hS hG hb hX hY h2
                have hS := hS1
                have h3 := h3'
                have h2 := h2'
                have hX := hX1
                have hY := hY1
                clear hS1 h3' h2' hX1 hY1
                refine hK.out _ _ hS.out (fun _ => ?_)
                clear hK K
                try simp only [Act.put, List.setIfInBounds_toArray, List.set_cons_zero, List.set_cons_succ]
                refine wpAnyH_ready (rs := [9]) (by kernel_rfl) (by simp) ?_
                refine AllReadyH.cons (o := _) rfl (fun K hK => ?_) ?_
                · go_simp
                  go_at_call 15
                  with_reducible refine (F4.out _ _ _ h3.out.group).mono ?_
                  rintro e W6 ⟨A4, c4, rfl, hG, hb⟩
                  have hS1 := Lib.hid (hS.out.step hb)
                  have h4' := Lib.hid (Gr.of hG)
                  have h2' := Lib.hid (h2.out.step hb)
                  have hX1 := Lib.hid (hX.out.step hb)
                  have x4 : Hid (W0.heap.size < W5.heap.size ∨ W6.heap.size ≤ W0.heap.size) := Or.inl hX.out.2.1
                  have hY1 := Lib.hid (hY.out.step hb)
                  have y4 : Hid (W3.heap.size < W5.heap.size ∨ W6.heap.size ≤ W3.heap.size) := Or.inl hY.out.2.1
                  clear hS hG hb hX hY h2 h3
                  have hS := hS1
                  have h4 := h4'
                  have h2 := h2'
                  have hX := hX1
                  have hY := hY1
                  clear hS1 h4' h2' hX1 hY1
                  refine hK.out _ _ hS.out (fun _ => ?_)
                  clear hK K
                  try simp only [Act.put, List.setIfInBounds_toArray, List.set_cons_zero, List.set_cons_succ]
                  obtain ⟨kx0, kx1, kx2, kx3⟩ := hX.out.2.2
                  obtain ⟨ky0, ky1, ky2, ky3⟩ := hY.out.2.2
                  have hxy := hXY.out
                  have hyx := Ne.symm hXY.out
                  refine wpAnyH_ready (rs := [12]) (by kernel_rfl) (by simp) ?_
                  refine AllReadyH.cons (o := _) rfl (fun K hK => ?_) AllReadyH.nil
                  go_simp
                  refine hK.out _ _ ((hS.out.set hX.out.1 0 _).set hX.out.1 1 _) (fun _ => ?_)
                  clear hK K
                  try simp only [Act.put, List.setIfInBounds_toArray, List.set_cons_zero, List.set_cons_succ]
                  refine wpAnyH_ready (rs := [13]) (by kernel_rfl) (by simp) ?_
                  refine AllReadyH.cons (o := _) rfl (fun K hK => ?_) AllReadyH.nil
                  go_simp
                  refine hK.out _ _ ((((hS.out.set hX.out.1 0 _).set hX.out.1 1 _).set hY.out.1 0 _).set hY.out.1 1 _) (fun _ => ?_)
                  clear hK K kx0 kx1 kx2 kx3 ky0 ky1 ky2 ky3
                  try simp only [Act.put, List.setIfInBounds_toArray, List.set_cons_zero, List.set_cons_succ]
                  refine wpAnyH_done (by kernel_rfl) ?_ _
                  refine NoPanic.normal ?_
                  go_wp2_with fail
                  go_meet
                  exact two_of hS.out hX.out hY.out hXY.out h2.out h4.out x2.out x4.out y2.out y4.out
                exact AllReadyH.nil
              exact AllReadyH.nil
            exact AllReadyH.nil
          refine AllReadyH.cons (o := _) rfl (fun K hK => ?_) ?_
          · go_simp
            obtain ⟨W3, hW⟩ : ∃ V, W2.alloc (.cells #[.int .i64 0, .slice none 0 0] 24) = V := ⟨_, rfl⟩
            have hb := belowG W2
            have hB := Bx.new hS.out
            have hY1 : Hid (Bx w W2.heap.size _) := hB
            have hS1 := Lib.hid (hS.out.step hb)
            have hX1 := Lib.hid (hX.out.step hb)
            have hXY : Hid (W0.heap.size ≠ W2.heap.size) := Nat.ne_of_lt hX.out.2.1
            have h1' := Lib.hid (h1.out.step hb)
            clear hS hb hB hX h1
            rw [hW] at hS1 hX1 hY1 h1' ⊢
            have hS := hS1
            have hX := hX1
            have hY := hY1
            have h1 := h1'
            clear hW hS1 hX1 hY1 h1'
            refine hK.out _ _ hS.out (fun _ => ?_)
            clear hK K
            try simp only [Act.put, List.setIfInBounds_toArray, List.set_cons_zero, List.set_cons_succ]
            refine wpAnyH_ready (rs := [4]) (by kernel_rfl) (by simp) ?_
            refine AllReadyH.cons (o := _) rfl (fun K hK => ?_) ?_
            · go_simp
              go_at_call 15
              with_reducible refine (F3.out _ _ _ h1.out.group).mono ?_
              rintro e W4 ⟨A2, c2, rfl, hG, hb⟩
              have hS1 := Lib.hid (hS.out.step hb)
              have h2' := Lib.hid (Gr.of hG)
              have hX1 := Lib.hid (hX.out.step hb)
              have x2 : Hid (W0.heap.size < W3.heap.size ∨ W4.heap.size ≤ W0.heap.size) := Or.inl hX.out.2.1
              have hY1 := Lib.hid (hY.out.step hb)
              have y2 : Hid (W2.heap.size < W3.heap.size ∨ W4.heap.size ≤ W2.heap.size) := Or.inl hY.out.2.1
              clear hS hG hb hX hY h1
              have hS := hS1
              have h2 := h2'
              have hX := hX1
              have hY := hY1
              clear hS1 h2' hX1 hY1
              refine hK.out _ _ hS.out (fun _ => ?_)
              clear hK K
              try simp only [Act.put, List.setIfInBounds_toArray, List.set_cons_zero, List.set_cons_succ]
              refine wpAnyH_ready (rs := [7]) (by kernel_rfl) (by simp) ?_
              refine AllReadyH.cons (o := _) rfl (fun K hK => ?_) ?_
              · go_simp
                go_at_call 15
                with_reducible refine (F2.out _ hS.out).mono ?_
                rintro e W5 ⟨A3, c3, rfl, hG, hb⟩
                have hS1 := Lib.hid (hS.out.step hb)
                have h3' := Lib.hid (Gr.of hG)
                have h2' := Lib.hid (h2.out.step hb)
                have hX1 := Lib.hid (hX.out.step hb)
                have hY1 := Lib.hid (hY.out.step hb)
                clear hS hG hb hX hY h2
                have hS := hS1
                have h3 := h3'
                have h2 := h2'
                have hX := hX1
                have hY := hY1
                clear hS1 h3' h2' hX1 hY1
                refine hK.out _ _ hS.out (fun _ => ?_)
                clear hK K
                try simp only [Act.put, List.setIfInBounds_toArray, List.set_cons_zero, List.set_cons_succ]
                refine wpAnyH_ready (rs := [9]) (by kernel_rfl) (by simp) ?_
                refine AllReadyH.cons (o := _) rfl (fun K hK => ?_) ?_
                · go_simp
                  go_at_call 15
                  with_reducible refine (F4.out _ _ _ h3.out.group).mono ?_
                  rintro e W6 ⟨A4, c4, rfl, hG, hb⟩
                  have hS1 := Lib.hid (hS.out.step hb)
                  have h4' := Lib.hid (Gr.of hG)
                  have h2' := Lib.hid (h2.out.step hb)
                  have hX1 := Lib.hid (hX.out.step hb)
                  have x4 : Hid (W0.heap.size < W5.heap.size ∨ W6.heap.size ≤ W0.heap.size) := Or.inl hX.out.2.1
                  have hY1 := Lib.hid (hY.out.step hb)
                  have y4 : Hid (W2.heap.size < W5.heap.size ∨ W6.heap.size ≤ W2.heap.size) := Or.inl hY.out.2.1
                  clear hS hG hb hX hY h2 h3
                  have hS := hS1
                  have h4 := h4'
                  have h2 := h2'
                  have hX := hX1
                  have hY := hY1
                  clear hS1 h4' h2' hX1 hY1
                  refine hK.out _ _ hS.out (fun _ => ?_)
                  clear hK K
                  try simp only [Act.put, List.setIfInBounds_toArray, List.set_cons_zero, List.set_cons_succ]
                  obtain ⟨kx0, kx1, kx2, kx3⟩ := hX.out.2.2
                  obtain ⟨ky0, ky1, ky2, ky3⟩ := hY.out.2.2
                  have hxy := hXY.out
                  have hyx := Ne.symm hXY.out
                  refine wpAnyH_ready (rs := [12]) (by kernel_rfl) (by simp) ?_
                  refine AllReadyH.cons (o := _) rfl (fun K hK => ?_) AllReadyH.nil
                  go_simp
                  refine hK.out _ _ ((hS.out.set hX.out.1 0 _).set hX.out.1 1 _) (fun _ => ?_)
                  clear hK K
                  try simp only [Act.put, List.setIfInBounds_toArray, List.set_cons_zero, List.set_cons_succ]
                  refine wpAnyH_ready (rs := [13]) (by kernel_rfl) (by simp) ?_
                  refine AllReadyH.cons (o := _) rfl (fun K hK => ?_) AllReadyH.nil
                  go_simp
                  refine hK.out _ _ ((((hS.out.set hX.out.1 0 _).set hX.out.1 1 _).set hY.out.1 0 _).set hY.out.1 1 _) (fun _ => ?_)
                  clear hK K kx0 kx1 kx2 kx3 ky0 ky1 ky2 ky3
                  try simp only [Act.put, List.setIfInBounds_toArray, List.set_cons_zero, List.set_cons_succ]
                  refine wpAnyH_done (by kernel_rfl) ?_ _
                  refine NoPanic.normal ?_
                  go_wp2_with fail
                  go_meet
                  exact two_of hS.out hX.out hY.out hXY.out h2.out h4.out x2.out x4.out y2.out y4.out
                exact AllReadyH.nil
              exact AllReadyH.nil
            exact AllReadyH.nil
          exact AllReadyH.nil
        refine AllReadyH.cons (o := _) rfl (fun K hK => ?_) ?_
        · go_simp
          obtain ⟨W2, hW⟩ : ∃ V, W1.alloc (.cells #[.int .i64 0, .slice none 0 0] 24) = V := ⟨_, rfl⟩
          have hb := belowG W1
          have hB := Bx.new hS.out
          have hY1 : Hid (Bx w W1.heap.size _) := hB
          have hS1 := Lib.hid (hS.out.step hb)
          have hX1 := Lib.hid (hX.out.step hb)
          have hXY : Hid (W0.heap.size ≠ W1.heap.size) := Nat.ne_of_lt hX.out.2.1
          clear hS hb hB hX
          rw [hW] at hS1 hX1 hY1 ⊢
          have hS := hS1
          have hX := hX1
          have hY := hY1
          clear hW hS1 hX1 hY1
          refine hK.out _ _ hS.out (fun _ => ?_)
          clear hK K
          try simp only [Act.put, List.setIfInBounds_toArray, List.set_cons_zero, List.set_cons_succ]
          refine wpAnyH_ready (rs := [2]) (by kernel_rfl) (by simp) ?_
          refine AllReadyH.cons (o := _) rfl (fun K hK => ?_) ?_
          · go_simp
            go_at_call 15
            with_reducible refine (F1.out _ hS.out).mono ?_
            rintro e W3 ⟨A1, c1, rfl, hG, hb⟩
            have hS1 := Lib.hid (hS.out.step hb)
            have h1' := Lib.hid (Gr.of hG)
            have hX1 := Lib.hid (hX.out.step hb)
            have hY1 := Lib.hid (hY.out.step hb)
            clear hS hG hb hX hY 
            have hS := hS1
            have h1 := h1'
            have hX := hX1
            have hY := hY1
            clear hS1 h1' hX1 hY1
            refine hK.out _ _ hS.out (fun _ => ?_)
            clear hK K
            try simp only [Act.put, List.setIfInBounds_toArray, List.set_cons_zero, List.set_cons_succ]
            refine wpAnyH_ready (rs := [4]) (by kernel_rfl) (by simp) ?_
            refine AllReadyH.cons (o := _) rfl (fun K hK => ?_) ?_
            · go_simp
              go_at_call 15
              with_reducible refine (F3.out _ _ _ h1.out.group).mono ?_
              rintro e W4 ⟨A2, c2, rfl, hG, hb⟩
              have hS1 := Lib.hid (hS.out.step hb)
              have h2' := Lib.hid (Gr.of hG)
              have hX1 := Lib.hid (hX.out.step hb)
              have x2 : Hid (W0.heap.size < W3.heap.size ∨ W4.heap.size ≤ W0.heap.size) := Or.inl hX.out.2.1
              have hY1 := Lib.hid (hY.out.step hb)
              have y2 : Hid (W1.heap.size < W3.heap.size ∨ W4.heap.size ≤ W1.heap.size) := Or.inl hY.out.2.1
              clear hS hG hb hX hY h1
              have hS := hS1
              have h2 := h2'
              have hX := hX1
              have hY := hY1
              clear hS1 h2' hX1 hY1
              refine hK.out _ _ hS.out (fun _ => ?_)
              clear hK K
              try simp only [Act.put, List.setIfInBounds_toArray, List.set_cons_zero, List.set_cons_succ]
              refine wpAnyH_ready (rs := [7]) (by kernel_rfl) (by simp) ?_
              refine AllReadyH.cons (o := _) rfl (fun K hK => ?_) ?_
              · go_simp
                go_at_call 15
                with_reducible refine (F2.out _ hS.out).mono ?_
                rintro e W5 ⟨A3, c3, rfl, hG, hb⟩
                have hS1 := Lib.hid (hS.out.step hb)
                have h3' := Lib.hid (Gr.of hG)
                have h2' := Lib.hid (h2.out.step hb)
                have hX1 := Lib.hid (hX.out.step hb)
                have hY1 := Lib.hid (hY.out.step hb)
                clear hS hG hb hX hY h2
                have hS := hS1
                have h3 := h3'
                have h2 := h2'
                have hX := hX1
                have hY := hY1
                clear hS1 h3' h2' hX1 hY1
                refine hK.out _ _ hS.out (fun _ => ?_)
                clear hK K
                try simp only [Act.put, List.setIfInBounds_toArray, List.set_cons_zero, List.set_cons_succ]
                refine wpAnyH_ready (rs := [9]) (by kernel_rfl) (by simp) ?_
                refine AllReadyH.cons (o := _) rfl (fun K hK => ?_) ?_
                · go_simp
                  go_at_call 15
                  with_reducible refine (F4.out _ _ _ h3.out.group).mono ?_
                  rintro e W6 ⟨A4, c4, rfl, hG, hb⟩
                  have hS1 := Lib.hid (hS.out.step hb)
                  have h4' := Lib.hid (Gr.of hG)
                  have h2' := Lib.hid (h2.out.step hb)
                  have hX1 := Lib.hid (hX.out.step hb)
                  have x4 : Hid (W0.heap.size < W5.heap.size ∨ W6.heap.size ≤ W0.heap.size) := Or.inl hX.out.2.1
                  have hY1 := Lib.hid (hY.out.step hb)
                  have y4 : Hid (W1.heap.size < W5.heap.size ∨ W6.heap.size ≤ W1.heap.size) := Or.inl hY.out.2.1
                  clear hS hG hb hX hY h2 h3
                  have hS := hS1
                  have h4 := h4'
                  have h2 := h2'
                  have hX := hX1
                  have hY := hY1
                  clear hS1 h4' h2' hX1 hY1
                  refine hK.out _ _ hS.out (fun _ => ?_)
                  clear hK K
                  try simp only [Act.put, List.setIfInBounds_toArray, List.set_cons_zero, List.set_cons_succ]
                  obtain ⟨kx0, kx1, kx2, kx3⟩ := hX.out.2.2
                  obtain ⟨ky0, ky1, ky2, ky3⟩ := hY.out.2.2
                  have hxy := hXY.out
                  have hyx := Ne.symm hXY.out
                  refine wpAnyH_ready (rs := [12]) (by kernel_rfl) (by simp) ?_
                  refine AllReadyH.cons (o := _) rfl (fun K hK => ?_) AllReadyH.nil
                  go_simp
                  refine hK.out _ _ ((hS.out.set hX.out.1 0 _).set hX.out.1 1 _) (fun _ => ?_)
                  clear hK K
                  try simp only [Act.put, List.setIfInBounds_toArray, List.set_cons_zero, List.set_cons_succ]
                  refine wpAnyH_ready (rs := [13]) (by kernel_rfl) (by simp) ?_
                  refine AllReadyH.cons (o := _) rfl (fun K hK => ?_) AllReadyH.nil
                  go_simp
                  refine hK.out _ _ ((((hS.out.set hX.out.1 0 _).set hX.out.1 1 _).set hY.out.1 0 _).set hY.out.1 1 _) (fun _ => ?_)
                  clear hK K kx0 kx1 kx2 kx3 ky0 ky1 ky2 ky3
                  try simp only [Act.put, List.setIfInBounds_toArray, List.set_cons_zero, List.set_cons_succ]
                  refine wpAnyH_done (by kernel_rfl) ?_ _
                  refine NoPanic.normal ?_
                  go_wp2_with fail
                  go_meet
                  exact two_of hS.out hX.out hY.out hXY.out h2.out h4.out x2.out x4.out y2.out y4.out
                exact AllReadyH.nil
              exact AllReadyH.nil
            exact AllReadyH.nil
          exact AllReadyH.nil
        exact AllReadyH.nil
      refine AllReadyH.cons (o := _) rfl (fun K hK => ?_) ?_
      · go_simp
        obtain ⟨W1, hW⟩ : ∃ V, W0.alloc (.cells #[.int .i64 0, .slice none 0 0] 24) = V := ⟨_, rfl⟩
        have hb := belowG W0
        have hB := Bx.new hS.out
        have hY1 : Hid (Bx w W0.heap.size _) := hB
        have hS1 := Lib.hid (hS.out.step hb)
        clear hS hb hB
        rw [hW] at hS1 hY1 ⊢
        have hS := hS1
        have hY := hY1
        clear hW hS1 hY1
        refine hK.out _ _ hS.out (fun _ => ?_)
        clear hK K
        try simp only [Act.put, List.setIfInBounds_toArray, List.set_cons_zero, List.set_cons_succ]
        refine wpAnyH_ready (rs := [2, 10]) (by kernel_rfl) (by simp) ?_
        refine AllReadyH.cons (o := _) rfl (fun K hK => ?_) ?_
        · go_simp
          go_at_call 15
          with_reducible refine (F1.out _ hS.out).mono ?_
          rintro e W2 ⟨A1, c1, rfl, hG, hb⟩
          have hS1 := Lib.hid (hS.out.step hb)
          have h1' := Lib.hid (Gr.of hG)
          have hY1 := Lib.hid (hY.out.step hb)
          clear hS hG hb hY 
          have hS := hS1
          have h1 := h1'
          have hY := hY1
          clear hS1 h1' hY1
          refine hK.out _ _ hS.out (fun _ => ?_)
          clear hK K
          try simp only [Act.put, List.setIfInBounds_toArray, List.set_cons_zero, List.set_cons_succ]
          refine wpAnyH_ready (rs := [4, 10]) (by kernel_rfl) (by simp) ?_
          refine AllReadyH.cons (o := _) rfl (fun K hK => ?_) ?_
          · go_simp
            go_at_call 15
            with_reducible refine (F3.out _ _ _ h1.out.group).mono ?_
            rintro e W3 ⟨A2, c2, rfl, hG, hb⟩
            have hS1 := Lib.hid (hS.out.step hb)
            have h2' := Lib.hid (Gr.of hG)
            have hY1 := Lib.hid (hY.out.step hb)
            have y2 : Hid (W0.heap.size < W2.heap.size ∨ W3.heap.size ≤ W0.heap.size) := Or.inl hY.out.2.1
            clear hS hG hb hY h1
            have hS := hS1
            have h2 := h2'
            have hY := hY1
            clear hS1 h2' hY1
            refine hK.out _ _ hS.out (fun _ => ?_)
            clear hK K
            try simp only [Act.put, List.setIfInBounds_toArray, List.set_cons_zero, List.set_cons_succ]
            refine wpAnyH_ready (rs := [7, 10]) (by kernel_rfl) (by simp) ?_
            refine AllReadyH.cons (o := _) rfl (fun K hK => ?_) ?_
            · go_simp
              go_at_call 15
              with_reducible refine (F2.out _ hS.out).mono ?_
              rintro e W4 ⟨A3, c3, rfl, hG, hb⟩
              have hS1 := Lib.hid (hS.out.step hb)
              have h3' := Lib.hid (Gr.of hG)
              have h2' := Lib.hid (h2.out.step hb)
              have hY1 := Lib.hid (hY.out.step hb)
              clear hS hG hb hY h2
              have hS := hS1
              have h3 := h3'
              have h2 := h2'
              have hY := hY1
              clear hS1 h3' h2' hY1
              refine hK.out _ _ hS.out (fun _ => ?_)
              clear hK K
              try simp only [Act.put, List.setIfInBounds_toArray, List.set_cons_zero, List.set_cons_succ]
              refine wpAnyH_ready (rs := [9, 10]) (by kernel_rfl) (by simp) ?_
              refine AllReadyH.cons (o := _) rfl (fun K hK => ?_) ?_
              · go_simp
                go_at_call 15
                with_reducible refine (F4.out _ _ _ h3.out.group).mono ?_
                rintro e W5 ⟨A4, c4, rfl, hG, hb⟩
                have hS1 := Lib.hid (hS.out.step hb)
                have h4' := Lib.hid (Gr.of hG)
                have h2' := Lib.hid (h2.out.step hb)
                have hY1 := Lib.hid (hY.out.step hb)
                have y4 : Hid (W0.heap.size < W4.heap.size ∨ W5.heap.size ≤ W0.heap.size) := Or.inl hY.out.2.1
                clear hS hG hb hY h2 h3
                have hS := hS1
                have h4 := h4'
                have h2 := h2'
                have hY := hY1
                clear hS1 h4' h2' hY1
                refine hK.out _ _ hS.out (fun _ => ?_)
                clear hK K
                try simp only [Act.put, List.setIfInBounds_toArray, List.set_cons_zero, List.set_cons_succ]
                refine wpAnyH_ready (rs := [10]) (by kernel_rfl) (by simp) ?_
                refine AllReadyH.cons (o := _) rfl (fun K hK => ?_) ?_
                · go_simp
                  obtain ⟨W6, hW⟩ : ∃ V, W5.alloc (.cells #[.int .i64 0, .slice none 0 0] 24) = V := ⟨_, rfl⟩
                  have hb := belowG W5
                  have hB := Bx.new hS.out
                  have hX1 : Hid (Bx w W5.heap.size _) := hB
                  have hS1 := Lib.hid (hS.out.step hb)
                  have hY1 := Lib.hid (hY.out.step hb)
                  have hXY : Hid (W5.heap.size ≠ W0.heap.size) := Ne.symm (Nat.ne_of_lt hY.out.2.1)
                  have h2' := Lib.hid (h2.out.step hb)
                  have x2 : Hid (W5.heap.size < W2.heap.size ∨ W3.heap.size ≤ W5.heap.size) := Or.inr h2.out.2
                  have h4' := Lib.hid (h4.out.step hb)
                  have x4 : Hid (W5.heap.size < W4.heap.size ∨ W5.heap.size ≤ W5.heap.size) := Or.inr h4.out.2
                  clear hS hb hB hY h2 h4
                  rw [hW] at hS1 hX1 hY1 h2' h4' ⊢
                  have hS := hS1
                  have hX := hX1
                  have hY := hY1
                  have h2 := h2'
                  have h4 := h4'
                  clear hW hS1 hX1 hY1 h2' h4'
                  refine hK.out _ _ hS.out (fun _ => ?_)
                  clear hK K
                  try simp only [Act.put, List.setIfInBounds_toArray, List.set_cons_zero, List.set_cons_succ]
                  obtain ⟨kx0, kx1, kx2, kx3⟩ := hX.out.2.2
                  obtain ⟨ky0, ky1, ky2, ky3⟩ := hY.out.2.2
                  have hxy := hXY.out
                  have hyx := Ne.symm hXY.out
                  refine wpAnyH_ready (rs := [12]) (by kernel_rfl) (by simp) ?_
                  refine AllReadyH.cons (o := _) rfl (fun K hK => ?_) AllReadyH.nil
                  go_simp
                  refine hK.out _ _ ((hS.out.set hX.out.1 0 _).set hX.out.1 1 _) (fun _ => ?_)
                  clear hK K
                  try simp only [Act.put, List.setIfInBounds_toArray, List.set_cons_zero, List.set_cons_succ]
                  refine wpAnyH_ready (rs := [13]) (by kernel_rfl) (by simp) ?_
                  refine AllReadyH.cons (o := _) rfl (fun K hK => ?_) AllReadyH.nil
                  go_simp
                  refine hK.out _ _ ((((hS.out.set hX.out.1 0 _).set hX.out.1 1 _).set hY.out.1 0 _).set hY.out.1 1 _) (fun _ => ?_)
                  clear hK K kx0 kx1 kx2 kx3 ky0 ky1 ky2 ky3
                  try simp only [Act.put, List.setIfInBounds_toArray, List.set_cons_zero, List.set_cons_succ]
                  refine wpAnyH_done (by kernel_rfl) ?_ _
                  refine NoPanic.normal ?_
                  go_wp2_with fail
                  go_meet
                  exact two_of hS.out hX.out hY.out hXY.out h2.out h4.out x2.out x4.out y2.out y4.out
                exact AllReadyH.nil
              refine AllReadyH.cons (o := _) rfl (fun K hK => ?_) ?_
              · go_simp
                obtain ⟨W5, hW⟩ : ∃ V, W4.alloc (.cells #[.int .i64 0, .slice none 0 0] 24) = V := ⟨_, rfl⟩
                have hb := belowG W4
                have hB := Bx.new hS.out
                have hX1 : Hid (Bx w W4.heap.size _) := hB
                have hS1 := Lib.hid (hS.out.step hb)
                have hY1 := Lib.hid (hY.out.step hb)
                have hXY : Hid (W4.heap.size ≠ W0.heap.size) := Ne.symm (Nat.ne_of_lt hY.out.2.1)
                have h2' := Lib.hid (h2.out.step hb)
                have x2 : Hid (W4.heap.size < W2.heap.size ∨ W3.heap.size ≤ W4.heap.size) := Or.inr h2.out.2
                have h3' := Lib.hid (h3.out.step hb)
                clear hS hb hB hY h2 h3
                rw [hW] at hS1 hX1 hY1 h2' h3' ⊢
                have hS := hS1
                have hX := hX1
                have hY := hY1
                have h2 := h2'
                have h3 := h3'
                clear hW hS1 hX1 hY1 h2' h3'
                refine hK.out _ _ hS.out (fun _ => ?_)
                clear hK K
                try simp only [Act.put, List.setIfInBounds_toArray, List.set_cons_zero, List.set_cons_succ]
                refine wpAnyH_ready (rs := [9]) (by kernel_rfl) (by simp) ?_
                refine AllReadyH.cons (o := _) rfl (fun K hK => ?_) ?_
                · go_simp
                  go_at_call 15
                  with_reducible refine (F4.out _ _ _ h3.out.group).mono ?_
                  rintro e W6 ⟨A4, c4, rfl, hG, hb⟩
                  have hS1 := Lib.hid (hS.out.step hb)
                  have h4' := Lib.hid (Gr.of hG)
                  have h2' := Lib.hid (h2.out.step hb)
                  have hX1 := Lib.hid (hX.out.step hb)
                  have x4 : Hid (W4.heap.size < W5.heap.size ∨ W6.heap.size ≤ W4.heap.size) := Or.inl hX.out.2.1
                  have hY1 := Lib.hid (hY.out.step hb)
                  have y4 : Hid (W0.heap.size < W5.heap.size ∨ W6.heap.size ≤ W0.heap.size) := Or.inl hY.out.2.1
                  clear hS hG hb hX hY h2 h3
                  have hS := hS1
                  have h4 := h4'
                  have h2 := h2'
                  have hX := hX1
                  have hY := hY1
                  clear hS1 h4' h2' hX1 hY1
                  refine hK.out _ _ hS.out (fun _ => ?_)
                  clear hK K
                  try simp only [Act.put, List.setIfInBounds_toArray, List.set_cons_zero, List.set_cons_succ]
                  obtain ⟨kx0, kx1, kx2, kx3⟩ := hX.out.2.2
                  obtain ⟨ky0, ky1, ky2, ky3⟩ := hY.out.2.2
                  have hxy := hXY.out
                  have hyx := Ne.symm hXY.out
                  refine wpAnyH_ready (rs := [12]) (by kernel_rfl) (by simp) ?_
                  refine AllReadyH.cons (o := _) rfl (fun K hK => ?_) AllReadyH.nil
                  go_simp
                  refine hK.out _ _ ((hS.out.set hX.out.1 0 _).set hX.out.1 1 _) (fun _ => ?_)
                  clear hK K
                  try simp only [Act.put, List.setIfInBounds_toArray, List.set_cons_zero, List.set_cons_succ]
                  refine wpAnyH_ready (rs := [13]) (by kernel_rfl) (by simp) ?_
                  refine AllReadyH.cons (o := _) rfl (fun K hK => ?_) AllReadyH.nil
                  go_simp
                  refine hK.out _ _ ((((hS.out.set hX.out.1 0 _).set hX.out.1 1 _).set hY.out.1 0 _).set hY.out.1 1 _) (fun _ => ?_)
                  clear hK K kx0 kx1 kx2 kx3 ky0 ky1 ky2 ky3
                  try simp only [Act.put, List.setIfInBounds_toArray, List.set_cons_zero, List.set_cons_succ]
                  refine wpAnyH_done (by kernel_rfl) ?_ _
                  refine NoPanic.normal ?_
                  go_wp2_with fail
                  go_meet
                  exact two_of hS.out hX.out hY.out hXY.out h2.out h4.out x2.out x4.out y2.out y4.out
                exact AllReadyH.nil
              exact AllReadyH.nil
            refine AllReadyH.cons (o := _) rfl (fun K hK => ?_) ?_
            · go_simp
              obtain ⟨W4, hW⟩ : ∃ V, W3.alloc (.cells #[.int .i64 0, .slice none 0 0] 24) = V := ⟨_, rfl⟩
              have hb := belowG W3
              have hB := Bx.new hS.out
              have hX1 : Hid (Bx w W3.heap.size _) := hB
              have hS1 := Lib.hid (hS.out.step hb)
              have hY1 := Lib.hid (hY.out.step hb)
              have hXY : Hid (W3.heap.size ≠ W0.heap.size) := Ne.symm (Nat.ne_of_lt hY.out.2.1)
              have h2' := Lib.hid (h2.out.step hb)
              have x2 : Hid (W3.heap.size < W2.heap.size ∨ W3.heap.size ≤ W3.heap.size) := Or.inr h2.out.2
              clear hS hb hB hY h2
              rw [hW] at hS1 hX1 hY1 h2' ⊢
              have hS := hS1
              have hX := hX1
              have hY := hY1
              have h2 := h2'
              clear hW hS1 hX1 hY1 h2'
              refine hK.out _ _ hS.out (fun _ => ?_)
              clear hK K
              try simp only [Act.put, List.setIfInBounds_toArray, List.set_cons_zero, List.set_cons_succ]
              refine wpAnyH_ready (rs := [7]) (by kernel_rfl) (by simp) ?_
              refine AllReadyH.cons (o := _) rfl (fun K hK => ?_) ?_
              · go_simp
                go_at_call 15
                with_reducible refine (F2.out _ hS.out).mono ?_
                rintro e W5 ⟨A3, c3, rfl, hG, hb⟩
                have hS1 := Lib.hid (hS.out.step hb)
                have h3' := Lib.hid (Gr.of hG)
                have h2' := Lib.hid (h2.out.step hb)
                have hX1 := Lib.hid (hX.out.step hb)
                have hY1 := Lib.hid (hY.out.step hb)
                clear hS hG hb hX hY h2
                have hS := hS1
                have h3 := h3'
                have h2 := h2'
                have hX := hX1
                have hY := hY1
                clear hS1 h3' h2' hX1 hY1
                refine hK.out _ _ hS.out (fun _ => ?_)
                clear hK K
                try simp only [Act.put, List.setIfInBounds_toArray, List.set_cons_zero, List.set_cons_succ]
                refine wpAnyH_ready (rs := [9]) (by kernel_rfl) (by simp) ?_
                refine AllReadyH.cons (o := _) rfl (fun K hK => ?_) ?_
                · go_simp
                  go_at_call 15
                  with_reducible refine (F4.out _ _ _ h3.out.group).mono ?_
                  rintro e W6 ⟨A4, c4, rfl, hG, hb⟩
                  have hS1 := Lib.hid (hS.out.step hb)
                  have h4' := Lib.hid (Gr.of hG)
                  have h2' := Lib.hid (h2.out.step hb)
                  have hX1 := Lib.hid (hX.out.step hb)
                  have x4 : Hid (W3.heap.size < W5.heap.size ∨ W6.heap.size ≤ W3.heap.size) := Or.inl hX.out.2.1
                  have hY1 := Lib.hid (hY.out.step hb)
                  have y4 : Hid (W0.heap.size < W5.heap.size ∨ W6.heap.size ≤ W0.heap.size) := Or.inl hY.out.2.1
                  clear hS hG hb hX hY h2 h3
                  have hS := hS1
                  have h4 := h4'
                  have h2 := h2'
                  have hX := hX1
                  have hY := hY1
                  clear hS1 h4' h2' hX1 hY1
                  refine hK.out _ _ hS.out (fun _ => ?_)
                  clear hK K
                  try simp only [Act.put, List.setIfInBounds_toArray, List.set_cons_zero, List.set_cons_succ]
                  obtain ⟨kx0, kx1, kx2, kx3⟩ := hX.out.2.2
                  obtain ⟨ky0, ky1, ky2, ky3⟩ := hY.out.2.2
                  have hxy := hXY.out
                  have hyx := Ne.symm hXY.out
                  refine wpAnyH_ready (rs := [12]) (by kernel_rfl) (by simp) ?_
                  refine AllReadyH.cons (o := _) rfl (fun K hK => ?_) AllReadyH.nil
                  go_simp
                  refine hK.out _ _ ((hS.out.set hX.out.1 0 _).set hX.out.1 1 _) (fun _ => ?_)
                  clear hK K
                  try simp only [Act.put, List.setIfInBounds_toArray, List.set_cons_zero, List.set_cons_succ]
                  refine wpAnyH_ready (rs := [13]) (by kernel_rfl) (by simp) ?_
                  refine AllReadyH.cons (o := _) rfl (fun K hK => ?_) AllReadyH.nil
                  go_simp
                  refine hK.out _ _ ((((hS.out.set hX.out.1 0 _).set hX.out.1 1 _).set hY.out.1 0 _).set hY.out.1 1 _) (fun _ => ?_)
                  clear hK K kx0 kx1 kx2 kx3 ky0 ky1 ky2 ky3
                  try simp only [Act.put, List.setIfInBounds_toArray, List.set_cons_zero, List.set_cons_succ]
                  refine wpAnyH_done (by kernel_rfl) ?_ _
                  refine NoPanic.normal ?_
                  go_wp2_with fail
                  go_meet
                  exact two_of hS.out hX.out hY.out hXY.out h2.out h4.out x2.out x4.out y2.out y4.out
                exact AllReadyH.nil
              exact AllReadyH.nil
            exact AllReadyH.nil
          refine AllReadyH.cons (o := _) rfl (fun K hK => ?_) ?_
          · go_simp
            obtain ⟨W3, hW⟩ : ∃ V, W2.alloc (.cells #[.int .i64 0, .slice none 0 0] 24) = V := ⟨_, rfl⟩
            have hb := belowG W2
            have hB := Bx.new hS.out
            have hX1 : Hid (Bx w W2.heap.size _) := hB
            have hS1 := Lib.hid (hS.out.step hb)
            have hY1 := Lib.hid (hY.out.step hb)
            have hXY : Hid (W2.heap.size ≠ W0.heap.size) := Ne.symm (Nat.ne_of_lt hY.out.2.1)
            have h1' := Lib.hid (h1.out.step hb)
            clear hS hb hB hY h1
            rw [hW] at hS1 hX1 hY1 h1' ⊢
            have hS := hS1
            have hX := hX1
            have hY := hY1
            have h1 := h1'
            clear hW hS1 hX1 hY1 h1'
            refine hK.out _ _ hS.out (fun _ => ?_)
            clear hK K
            try simp only [Act.put, List.setIfInBounds_toArray, List.set_cons_zero, List.set_cons_succ]
            refine wpAnyH_ready (rs := [4]) (by kernel_rfl) (by simp) ?_
            refine AllReadyH.cons (o := _) rfl (fun K hK => ?_) ?_
            · go_simp
              go_at_call 15
              with_reducible refine (F3.out _ _ _ h1.out.group).mono ?_
              rintro e W4 ⟨A2, c2, rfl, hG, hb⟩
              have hS1 := Lib.hid (hS.out.step hb)
              have h2' := Lib.hid (Gr.of hG)
              have hX1 := Lib.hid (hX.out.step hb)
              have x2 : Hid (W2.heap.size < W3.heap.size ∨ W4.heap.size ≤ W2.heap.size) := Or.inl hX.out.2.1
              have hY1 := Lib.hid (hY.out.step hb)
              have y2 : Hid (W0.heap.size < W3.heap.size ∨ W4.heap.size ≤ W0.heap.size) := Or.inl hY.out.2.1
              clear hS hG hb hX hY h1
              have hS := hS1
              have h2 := h2'
              have hX := hX1
              have hY := hY1
              clear hS1 h2' hX1 hY1
              refine hK.out _ _ hS.out (fun _ => ?_)
              clear hK K
              try simp only [Act.put, List.setIfInBounds_toArray, List.set_cons_zero, List.set_cons_succ]
              refine wpAnyH_ready (rs := [7]) (by kernel_rfl) (by simp) ?_
              refine AllReadyH.cons (o := _) rfl (fun K hK => ?_) ?_
              · go_simp
                go_at_call 15
                with_reducible refine (F2.out _ hS.out).mono ?_
                rintro e W5 ⟨A3, c3, rfl, hG, hb⟩
                have hS1 := Lib.hid (hS.out.step hb)
                have h3' := Lib.hid (Gr.of hG)
                have h2' := Lib.hid (h2.out.step hb)
                have hX1 := Lib.hid (hX.out.step hb)
                have hY1 := Lib.hid (hY.out.step hb)
                clear hS hG hb hX hY h2
                have hS := hS1
                have h3 := h3'
                have h2 := h2'
                have hX := hX1
                have hY := hY1
                clear hS1 h3' h2' hX1 hY1
                refine hK.out _ _ hS.out (fun _ => ?_)
                clear hK K
                try simp only [Act.put, List.setIfInBounds_toArray, List.set_cons_zero, List.set_cons_succ]
                refine wpAnyH_ready (rs := [9]) (by kernel_rfl) (by simp) ?_
                refine AllReadyH.cons (o := _) rfl (fun K hK => ?_) ?_
                · go_simp
                  go_at_call 15
                  with_reducible refine (F4.out _ _ _ h3.out.group).mono ?_
                  rintro e W6 ⟨A4, c4, rfl, hG, hb⟩
                  have hS1 := Lib.hid (hS.out.step hb)
                  have h4' := Lib.hid (Gr.of hG)
                  have h2' := Lib.hid (h2.out.step hb)
                  have hX1 := Lib.hid (hX.out.step hb)
                  have x4 : Hid (W2.heap.size < W5.heap.size ∨ W6.heap.size ≤ W2.heap.size) := Or.inl hX.out.2.1
                  have hY1 := Lib.hid (hY.out.step hb)
                  have y4 : Hid (W0.heap.size < W5.heap.size ∨ W6.heap.size ≤ W0.heap.size) := Or.inl hY.out.2.1
                  clear hS hG hb hX hY h2 h3
                  have hS := hS1
                  have h4 := h4'
                  have h2 := h2'
                  have hX := hX1
                  have hY := hY1
                  clear hS1 h4' h2' hX1 hY1
                  refine hK.out _ _ hS.out (fun _ => ?_)
                  clear hK K
                  try simp only [Act.put, List.setIfInBounds_toArray, List.set_cons_zero, List.set_cons_succ]
                  obtain ⟨kx0, kx1, kx2, kx3⟩ := hX.out.2.2
                  obtain ⟨ky0, ky1, ky2, ky3⟩ := hY.out.2.2
                  have hxy := hXY.out
                  have hyx := Ne.symm hXY.out
                  refine wpAnyH_ready (rs := [12]) (by kernel_rfl) (by simp) ?_
                  refine AllReadyH.cons (o := _) rfl (fun K hK => ?_) AllReadyH.nil
                  go_simp
                  refine hK.out _ _ ((hS.out.set hX.out.1 0 _).set hX.out.1 1 _) (fun _ => ?_)
                  clear hK K
                  try simp only [Act.put, List.setIfInBounds_toArray, List.set_cons_zero, List.set_cons_succ]
                  refine wpAnyH_ready (rs := [13]) (by kernel_rfl) (by simp) ?_
                  refine AllReadyH.cons (o := _) rfl (fun K hK => ?_) AllReadyH.nil
                  go_simp
                  refine hK.out _ _ ((((hS.out.set hX.out.1 0 _).set hX.out.1 1 _).set hY.out.1 0 _).set hY.out.1 1 _) (fun _ => ?_)
                  clear hK K kx0 kx1 kx2 kx3 ky0 ky1 ky2 ky3
                  try simp only [Act.put, List.setIfInBounds_toArray, List.set_cons_zero, List.set_cons_succ]
                  refine wpAnyH_done (by kernel_rfl) ?_ _
                  refine NoPanic.normal ?_
                  go_wp2_with fail
                  go_meet
                  exact two_of hS.out hX.out hY.out hXY.out h2.out h4.out x2.out x4.out y2.out y4.out
                exact AllReadyH.nil
              exact AllReadyH.nil
            exact AllReadyH.nil
          exact AllReadyH.nil
        refine AllReadyH.cons (o := _) rfl (fun K hK => ?_) ?_
        · go_simp
          obtain ⟨W2, hW⟩ : ∃ V, W1.alloc (.cells #[.int .i64 0, .slice none 0 0] 24) = V := ⟨_, rfl⟩
          have hb := belowG W1
          have hB := Bx.new hS.out
          have hX1 : Hid (Bx w W1.heap.size _) := hB
          have hS1 := Lib.hid (hS.out.step hb)
          have hY1 := Lib.hid (hY.out.step hb)
          have hXY : Hid (W1.heap.size ≠ W0.heap.size) := Ne.symm (Nat.ne_of_lt hY.out.2.1)
          clear hS hb hB hY
          rw [hW] at hS1 hX1 hY1 ⊢
          have hS := hS1
          have hX := hX1
          have hY := hY1
          clear hW hS1 hX1 hY1
          refine hK.out _ _ hS.out (fun _ => ?_)
          clear hK K
          try simp only [Act.put, List.setIfInBounds_toArray, List.set_cons_zero, List.set_cons_succ]
          refine wpAnyH_ready (rs := [2]) (by kernel_rfl) (by simp) ?_
          refine AllReadyH.cons (o := _) rfl (fun K hK => ?_) ?_
          · go_simp
            go_at_call 15
            with_reducible refine (F1.out _ hS.out).mono ?_
            rintro e W3 ⟨A1, c1, rfl, hG, hb⟩
            have hS1 := Lib.hid (hS.out.step hb)
            have h1' := Lib.hid (Gr.of hG)
            have hX1 := Lib.hid (hX.out.step hb)
            have hY1 := Lib.hid (hY.out.step hb)
            clear hS hG hb hX hY 
            have hS := hS1
            have h1 := h1'
            have hX := hX1
            have hY := hY1
            clear hS1 h1' hX1 hY1
            refine hK.out _ _ hS.out (fun _ => ?_)
            clear hK K
            try simp only [Act.put, List.setIfInBounds_toArray, List.set_cons_zero, List.set_cons_succ]
            refine wpAnyH_ready (rs := [4]) (by kernel_rfl) (by simp) ?_
            refine AllReadyH.cons (o := _) rfl (fun K hK => ?_) ?_
            · go_simp
              go_at_call 15
              with_reducible refine (F3.out _ _ _ h1.out.group).mono ?_
              rintro e W4 ⟨A2, c2, rfl, hG, hb⟩
              have hS1 := Lib.hid (hS.out.step hb)
              have h2' := Lib.hid (Gr.of hG)
              have hX1 := Lib.hid (hX.out.step hb)
              have x2 : Hid (W1.heap.size < W3.heap.size ∨ W4.heap.size ≤ W1.heap.size) := Or.inl hX.out.2.1
              have hY1 := Lib.hid (hY.out.step hb)
              have y2 : Hid (W0.heap.size < W3.heap.size ∨ W4.heap.size ≤ W0.heap.size) := Or.inl hY.out.2.1
              clear hS hG hb hX hY h1
              have hS := hS1
              have h2 := h2'
              have hX := hX1
              have hY := hY1
              clear hS1 h2' hX1 hY1
              refine hK.out _ _ hS.out (fun _ => ?_)
              clear hK K
              try simp only [Act.put, List.setIfInBounds_toArray, List.set_cons_zero, List.set_cons_succ]
              refine wpAnyH_ready (rs := [7]) (by kernel_rfl) (by simp) ?_
              refine AllReadyH.cons (o := _) rfl (fun K hK => ?_) ?_
              · go_simp
                go_at_call 15
                with_reducible refine (F2.out _ hS.out).mono ?_
                rintro e W5 ⟨A3, c3, rfl, hG, hb⟩
                have hS1 := Lib.hid (hS.out.step hb)
                have h3' := Lib.hid (Gr.of hG)
                have h2' := Lib.hid (h2.out.step hb)
                have hX1 := Lib.hid (hX.out.step hb)
                have hY1 := Lib.hid (hY.out.step hb)
                clear hS hG hb hX hY h2
                have hS := hS1
                have h3 := h3'
                have h2 := h2'
                have hX := hX1
                have hY := hY1
                clear hS1 h3' h2' hX1 hY1
                refine hK.out _ _ hS.out (fun _ => ?_)
                clear hK K
                try simp only [Act.put, List.setIfInBounds_toArray, List.set_cons_zero, List.set_cons_succ]
                refine wpAnyH_ready (rs := [9]) (by kernel_rfl) (by simp) ?_
                refine AllReadyH.cons (o := _) rfl (fun K hK => ?_) ?_
                · go_simp
                  go_at_call 15
                  with_reducible refine (F4.out _ _ _ h3.out.group).mono ?_
                  rintro e W6 ⟨A4, c4, rfl, hG, hb⟩
                  have hS1 := Lib.hid (hS.out.step hb)
                  have h4' := Lib.hid (Gr.of hG)
                  have h2' := Lib.hid (h2.out.step hb)
                  have hX1 := Lib.hid (hX.out.step hb)
                  have x4 : Hid (W1.heap.size < W5.heap.size ∨ W6.heap.size ≤ W1.heap.size) := Or.inl hX.out.2.1
                  have hY1 := Lib.hid (hY.out.step hb)
                  have y4 : Hid (W0.heap.size < W5.heap.size ∨ W6.heap.size ≤ W0.heap.size) := Or.inl hY.out.2.1
                  clear hS hG hb hX hY h2 h3
                  have hS := hS1
                  have h4 := h4'
                  have h2 := h2'
                  have hX := hX1
                  have hY := hY1
                  clear hS1 h4' h2' hX1 hY1
                  refine hK.out _ _ hS.out (fun _ => ?_)
                  clear hK K
                  try simp only [Act.put, List.setIfInBounds_toArray, List.set_cons_zero, List.set_cons_succ]
                  obtain ⟨kx0, kx1, kx2, kx3⟩ := hX.out.2.2
                  obtain ⟨ky0, ky1, ky2, ky3⟩ := hY.out.2.2
                  have hxy := hXY.out
                  have hyx := Ne.symm hXY.out
                  refine wpAnyH_ready (rs := [12]) (by kernel_rfl) (by simp) ?_
                  refine AllReadyH.cons (o := _) rfl (fun K hK => ?_) AllReadyH.nil
                  go_simp
                  refine hK.out _ _ ((hS.out.set hX.out.1 0 _).set hX.out.1 1 _) (fun _ => ?_)
                  clear hK K
                  try simp only [Act.put, List.setIfInBounds_toArray, List.set_cons_zero, List.set_cons_succ]
                  refine wpAnyH_ready (rs := [13]) (by kernel_rfl) (by simp) ?_
                  refine AllReadyH.cons (o := _) rfl (fun K hK => ?_) AllReadyH.nil
                  go_simp
                  refine hK.out _ _ ((((hS.out.set hX.out.1 0 _).set hX.out.1 1 _).set hY.out.1 0 _).set hY.out.1 1 _) (fun _ => ?_)
                  clear hK K kx0 kx1 kx2 kx3 ky0 ky1 ky2 ky3
                  try simp only [Act.put, List.setIfInBounds_toArray, List.set_cons_zero, List.set_cons_succ]
                  refine wpAnyH_done (by kernel_rfl) ?_ _
                  refine NoPanic.normal ?_
                  go_wp2_with fail
                  go_meet
                  exact two_of hS.out hX.out hY.out hXY.out h2.out h4.out x2.out x4.out y2.out y4.out
                exact AllReadyH.nil
              exact AllReadyH.nil
            exact AllReadyH.nil
          exact AllReadyH.nil
        exact AllReadyH.nil
      exact AllReadyH.nil
    case rest =>
      obtain ⟨X, Y, A2, c2, A4, c4, rfl, rfl, ⟨e0, e1, e2, e3⟩, g2, g4, hXs, hYs, hbw⟩ := hcut
      have HFL := Lib.hid (failures G.out HL.out HI.out a b flow (idem_failG HI.out) (idem_failG HI.out))
      rw [HXS.out, HYS.out] at HFL
      obtain ⟨pi, hpi⟩ : ∃ e, pick act n xs flow = e := ⟨_, rfl⟩
      have hpk : pick act n ys flow = pi := by rw [← HFL.out.1, hpi]
      rw [hpi] at HFL
      have P1 : Hid (∀ W, T4 X Y (.int .i64 act) (.slice A2 n c2) (.int .i64 act) (.slice A4 n c4) wc w W → Calls Try.prog 12 #[.agg #[.int .i64 act, .slice A2 n c2], .int .u32 flow] W fun e w' => e = .returned (.int .i64 pi) ∧ Below W.heap.size W w') := by
        intro W h
        have h1 := h.2.2.2.2.1.out
        have := pick_at A2 n c2 _ act flow xs W (g2.below h1) h1.size hn1 HF.out
        rwa [hpi] at this
      have P2 : Hid (∀ W, T4 X Y (.int .i64 act) (.slice A2 n c2) (.int .i64 act) (.slice A4 n c4) wc w W → Calls Try.prog 12 #[.agg #[.int .i64 act, .slice A4 n c4], .int .u32 flow] W fun e w' => e = .returned (.int .i64 pi) ∧ Below W.heap.size W w') := by
        intro W h
        have h1 := h.2.2.2.2.1.out
        have := pick_at A4 n c4 _ act flow ys W (g4.below h1) h1.size hn1 HF.out
        rwa [hpk] at this
      have HT : Hid (T4 X Y (.int .i64 act) (.slice A2 n c2) (.int .i64 act) (.slice A4 n c4) wc w wc.drew) := ⟨e0, e1, e2, e3, (Below.refl _ _).drew, hbw.drew⟩
      have HG2 := Lib.hid g2
      have HG4 := Lib.hid g4
      clear g2 g4 hbw hpi hpk F1 F2 F3 F4 HS1 C2
      go_upto_region 4 with fail
      go_region_held3 (fun w' => w'.cell? ⟨X, 0, none⟩ = some (.int .i64 act) ∧ w'.cell? ⟨X, 1, none⟩ = some (.slice A2 n c2) ∧ w'.cell? ⟨Y, 0, none⟩ = some (.int .i64 act) ∧ w'.cell? ⟨Y, 1, none⟩ = some (.slice A4 n c4) ∧ Hid (Below wc.heap.size wc w') ∧ Hid (Below w.heap.size w w'))
        (first | exact HT.out | exact hs | exact ht)
        (first
          | (go_at_call 12; (with_reducible refine (P1.out _ HT.out).mono ?_); rintro e wa ⟨rfl, hb⟩; have hs := HT.out.step hXs hYs hb; clear hb)
          | (go_at_call 12; (with_reducible refine (P2.out _ hs).mono ?_); rintro e wb ⟨rfl, hb⟩; have ht := T4.step hs (Nat.lt_of_lt_of_le hXs hs.2.2.2.2.1.out.size) (Nat.lt_of_lt_of_le hYs hs.2.2.2.2.1.out.size) hb; clear hb))
      obtain ⟨u0, u1, u2, u3, hv, hw⟩ := ht
      have HG2' := Lib.hid ((HG2.out.below hv.out).more hv.out.size)
      have HG4' := Lib.hid ((HG4.out.below hv.out).more hv.out.size)
      have HW := Lib.hid hw.out
      have hXb : X < wb.heap.size := Nat.lt_of_lt_of_le hXs hv.out.size
      have hYb : Y < wb.heap.size := Nat.lt_of_lt_of_le hYs hv.out.size
      clear hs hv hw HT P1 P2 HG2 HG4 e0 e1 e2 e3 hXs hYs
      by_cases hp0 : pi < 0
      · have d1 : decide (pi < 0) = true := by simp [hp0]
        go_wp2_with fail
        refine (awake_any _).mono ?_
        rintro e w8 ⟨rfl, hb8⟩
        have HB8 : Hid (Below w.heap.size w w8) := below_of HW.out hb8
        clear hb8
        go_wp2
        go_ret
        exact ⟨rfl, HB8.out⟩
      obtain ⟨i, rfl, hin, f1, f2, f3, f4, f5⟩ := HFL.out.2 (by omega)
      obtain ⟨b1, o1, p, D, dk, rfl, hb1, hp, _, x0, x1, x2, x3, x4, x5⟩ := HG2'.out.get hin
      obtain ⟨b2, o2, q, E, ek, rfl, hb2, hq, _, y0, y1, y2, y3, y4, y5⟩ := HG4'.out.get hin
      rw [getD_of hp, getD_of hq] at f1 f2 f3
      rw [getD_of hp] at f4 f5
      have i0 : (0 : Int) ≤ (i : Int) := by omega
      have in1 : (i : Int) < (n : Int) := by omega
      have dge : decide ((i : Int) ≥ (n : Int)) = false := by simp; omega
      have hni : ¬ n ≤ i := by omega
      have q1 : (p.iface == q.iface) = true := by simp [f1]
      have q2 : (p.router == q.router) = true := by simp [f2]
      have q3 : (p.addr == q.addr) = true := by simp [f3]
      have q4 : (p.iface != a) = true := by simp [f4]
      have q5 : (p.iface != b) = true := by simp [f5]
      clear hp hq hp0 HFL f1 f2 f3 f4 f5 HG2' HG4'
      go_upto_region 11 with fail
      go_cut [13, 14] (fun s t wx => PQ w p q s t wx)
      case first =>
        go_region_held3 (fun w' => w'.cell? ⟨X, 1, none⟩ = some (.slice (some ⟨b1, o1, none⟩) n c2) ∧ w'.cell? ⟨Y, 1, none⟩ = some (.slice (some ⟨b2, o2, none⟩) n c4) ∧
            w'.cell? ⟨b1, o1 + i * 6, none⟩ = some (.int .i64 p.iface) ∧ w'.cell? ⟨b1, o1 + i * 6 + 1, none⟩ = some (.int .u32 p.addr) ∧ w'.cell? ⟨b1, o1 + i * 6 + 2, none⟩ = some (.int .u32 p.router) ∧ w'.cell? ⟨b1, o1 + i * 6 + 3, none⟩ = some (.int .i64 p.weight) ∧ w'.cell? ⟨b1, o1 + i * 6 + 4, none⟩ = some (.slice D p.ls.length dk) ∧ w'.cell? ⟨b1, o1 + i * 6 + 5, none⟩ = some (.int .i64 p.backup) ∧
            w'.cell? ⟨b2, o2 + i * 6, none⟩ = some (.int .i64 q.iface) ∧ w'.cell? ⟨b2, o2 + i * 6 + 1, none⟩ = some (.int .u32 q.addr) ∧ w'.cell? ⟨b2, o2 + i * 6 + 2, none⟩ = some (.int .u32 q.router) ∧ w'.cell? ⟨b2, o2 + i * 6 + 3, none⟩ = some (.int .i64 q.weight) ∧ w'.cell? ⟨b2, o2 + i * 6 + 4, none⟩ = some (.slice E q.ls.length ek) ∧ w'.cell? ⟨b2, o2 + i * 6 + 5, none⟩ = some (.int .i64 q.backup))
          (first | go_keep)
          (fail)
        all_goals
          go_wp2_with fail
          go_meet
          exact ⟨_, _, rfl, rfl, (by simp <;> omega), (by simp <;> omega), ⟨by go_simp, by go_simp, by go_simp⟩, ⟨by go_simp, by go_simp, by go_simp⟩, ((HW.out.alloc HW.out.size _).alloc (by have := HW.out.size; simp; omega) _).drew⟩
      case rest =>
        obtain ⟨P, Q, rfl, rfl, hP, hQ, ⟨m0, m1, m2⟩, ⟨k0, k1, k2⟩, hbw⟩ := hcut
        have HBW := Lib.hid hbw
        clear hbw HW x0 x1 x2 x3 x4 x5 y0 y1 y2 y3 y4 y5 u0 u1 u2 u3
        go_wp2_with fail
        refine (awake_any _).mono ?_
        rintro e w9 ⟨rfl, hb9⟩
        obtain ⟨hc, _, _⟩ := bcell hb9
        have HB9 : Hid (Below w.heap.size w w9) := below_of HBW.out hb9
        clear hb9
        go_wp2
        go_ret
        exact ⟨rfl, HB9.out⟩
  · obtain ⟨ge, hge⟩ : ∃ e, gErr act n ds = e := ⟨_, rfl⟩
    rw [hge] at C2 hg
    have d : (ge != 0) = true := by simp [hg]
    clear hg hge hx hsd hf
    go_enter Try.func6, Try.ntmps6
    go_wp2_with fail
    refine C2.out.mono ?_
    rintro e w1 ⟨rfl, hb1⟩
    have HS1 : Hid (GBox w act (.slice A n c) w1) := HS0.out.step hb1
    clear hb1
    go_wp2_with fail
    refine (awake_any _).mono ?_
    rintro e w8 ⟨rfl, hb8⟩
    have HB8 : Hid (Below w.heap.size w w8) := (HS1.out.step hb8).below
    clear hb8
    go_wp2
    go_ret
    exact ⟨rfl, HB8.out⟩
theorem balanceFailures_walk (v0 : Value) (flow a b : Int) (w : World) (h0 : GroupIn w v0) (hf : (Lit.int .u32 flow).wf = true) (_ha : (Lit.int .i64 a).wf = true) (_hb : (Lit.int .i64 b).wf = true) :
    Calls Try.prog 6 #[v0, .int .u32 flow, .int .i64 a, .int .i64 b] w fun e w' => e = .returned (.bool true) ∧ Below w.heap.size w w' := by
  obtain ⟨act, A, n, c, ds, rfl, hx, hs, hn, _⟩ := h0
  have := bounds_u32 hf
  exact failures_walk0 act flow a b A n c ds w hx hs hn (by omega)
end Go.Proofs.Ytlcgjgmhllmekaa
