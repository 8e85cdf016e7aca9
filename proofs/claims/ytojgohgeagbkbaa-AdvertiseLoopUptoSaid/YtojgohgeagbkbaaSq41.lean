/- sequences, the program's: a range over slices.Chunk. -/
import Derived.Test.YtojgohgeagbkbaaChu
import Derived.Test.YtojgohgeagbkbaaCopy
namespace Go.Proofs.Ytojgohgeagbkbaa
open Go.RowKit Go.Shelf

set_option linter.unusedVariables false
set_option linter.unusedSimpArgs false
attribute [local go_sem] Oper.semAt_some
theorem SOut.other {w V : World} {base lo g m : Nat} {v : Value} {ts : Path} (h : SOut w base lo v m ts) (hs : Save g w V) (hg : g < base) (hg2 : g < lo) : SOut V base lo v m ts := by
  obtain ⟨fs, h1, h2, h3, h4⟩ := h
  refine ⟨fs, row_save h1 hs fun e => ?_, h2, h3, fun t ht => ⟨(ints_save (h4 t ht).1 hs (Nat.le_refl _) fun hn ad e => ?_).more hs.size, (h4 t ht).2⟩⟩
  · have := (World.ownsRow.lt h1 g e).1
    omega
  · have := ((h4 t ht).2 hn ad e).1
    omega
theorem ints_nocells {w w' : World} {B n c : Nat} {k : IntKind} {A : Option Addr} {xs : List Int} {row : Option Nat} (h : Ints w B k A n c xs) (hB : B ≤ w.heap.size) (hg : w.grownBy w' row) (hr : ∀ r, row = some r → ∃ o : Obj, w.heap[r]? = some o ∧ o.isCells = false) : Ints w' w'.heap.size k A n c xs := by
  refine ⟨h.1, h.2.1, h.2.2.1, fun hn => ?_⟩
  obtain ⟨b, o, e, hb, hc⟩ := h.2.2.2 hn
  have hne : some b ≠ row := by
    intro e2
    obtain ⟨ob, ho, hcells⟩ := hr b e2.symm
    have h0 := hc 0 (by omega)
    rw [Nat.add_zero] at h0
    have hl := h.2.2.1
    rw [List.getElem?_eq_getElem (by omega)] at h0
    unfold World.cell? at h0
    dsimp only at h0
    rw [ho] at h0
    cases ob <;> simp_all [Obj.isCells]
  refine ⟨b, o, e, Nat.lt_of_lt_of_le hb (Nat.le_trans hB hg.size), fun j hj => ?_⟩
  rw [← hc j hj]
  simp only [World.cell?, hg.block b (Nat.lt_of_lt_of_le hb hB) hne]
theorem SOut.nocells {w w' : World} {base lo m : Nat} {v : Value} {ts : Path} {row : Option Nat} (h : SOut w base lo v m ts) (hg : w.grownBy w' row) (hr : ∀ r, row = some r → ∃ o : Obj, w.heap[r]? = some o ∧ o.isCells = false) : SOut w' base lo v m ts := by
  obtain ⟨fs, h1, h2, h3, h4⟩ := h
  refine ⟨fs, h1.kept hg ?_, h2, h3, fun t ht => ⟨ints_nocells (h4 t ht).1 (Nat.le_refl _) hg hr, (h4 t ht).2⟩⟩
  rcases h1.2 with ⟨rfl, _⟩ | ⟨g, cap, cur, rfl, _, hgb, _⟩
  · exact .inl rfl
  · refine .inr fun e' => ?_
    obtain ⟨o, ho, hc⟩ := hr g (by simpa [Value.ownBlock] using e'.symm)
    rw [hgb] at ho; cases ho; cases hc
/-- append of one segment; what is no cells is kept -/
theorem SOut.pushRow {w : World} {base lo l N : Nat} {v : Value} {ts : Path} (h : SOut w base lo v l ts) (kind : Int) {A : Option Addr} {n c : Nat} {xs : List Int} (hx : Ints w w.heap.size .i64 A n c xs) (hf : Free lo v A n) (hN : N = w.heap.size) (hbase : base ≤ w.heap.size) (hl : l ≤ 1000000000000) :
    ∃ A' c' w', (Builtin.append_ #[35, 35] 35 #[v, .slice (some ⟨N, 0, none⟩) 1 1]).run Try.prog (w.alloc (.cells #[.int .i64 kind, .slice A n c] 75)) = .ok (.slice A' (l + 1) c') w' ∧ SOut w' base lo (.slice A' (l + 1) c') (l + 1) (ts ++ [(kind, xs)]) ∧ Below base w w' ∧
      ∀ (k : Nat) (o : Obj), w.heap[k]? = some o → o.isCells = false → w'.heap[k]? = some o := by
  subst hN
  have hrow := h.block
  have h' := h
  obtain ⟨fs0, hown, _⟩ := h'
  have hne : ∀ (k : Nat) (o : Obj), w.heap[k]? = some o → o.isCells = false → some k ≠ v.ownBlock := by
    intro k o hk ho e
    rcases hown.2 with ⟨rfl, _⟩ | ⟨g, cap, cur, rfl, _, hgb, _⟩
    · cases e
    · obtain rfl : k = g := by simpa [Value.ownBlock] using e
      rw [hk] at hgb
      cases hgb
      cases ho
  obtain ⟨W, hW⟩ : ∃ W, w.alloc (.cells #[.int .i64 kind, .slice A n c] 75) = W := ⟨_, rfl⟩
  have hbel : Below w.heap.size w W := by rw [← hW]; exact belowA _ _
  have hlit : Cells W W.heap.size 2 (some ⟨w.heap.size, 0, none⟩) 1 1 [.int .i64 kind, .slice A n c] := by
    rw [← hW]
    exact Cells.of_own (World.ownsRow_lit (base := w.heap.size) (size := 2) w #[.int .i64 kind, .slice A n c] 1 (Nat.le_refl _) (by simp [maxLen]) rfl)
  obtain ⟨A', c', w', k1, k2, k3, k4⟩ := (h.below hbel).append (by have := hbel.size; omega) (by omega) [⟨kind, A, n, c, xs⟩] ⟨hlit, rfl⟩ (us := [(kind, xs)]) rfl (fun t ht => by
    obtain rfl : t = ⟨kind, A, n, c, xs⟩ := by simpa using ht
    exact ⟨(hx.below hbel).more hbel.size, hf⟩)
  rw [hW]
  exact ⟨A', c', w', k1, k2, (hbel.mono hbase).grown k3 (by have := hbel.size; omega) (fun k hk => (hrow k hk).1), fun k o hk ho => (k3.block k (Nat.lt_of_lt_of_le (heap_lt hk) hbel.size) (hne k o hk ho)).trans ((hbel.block k (heap_lt hk)).trans hk)⟩
/-- between two rounds: the box holds the path so far -/
def SqI (w : World) (N1 : Nat) {n : Nat} (xs : List Int) (pre : List (Chk n)) (W : World) : Prop :=
  (∃ v, Boxed W w.heap.size 35 v ∧ SOut W N1 N1 v pre.length (pre.map (chkP xs))) ∧ Below w.heap.size w W ∧ N1 ≤ W.heap.size
theorem sqI_own {w : World} {N1 B n : Nat} {xs : List Int} (hB : w.heap.size < B) : OwnFrom B (SqI w N1 (n := n) xs) := by
  rintro s A W row ⟨⟨v, hv, hs⟩, hb, hn⟩ hg hr
  refine ⟨⟨v, hv.kept hg (fun e => ?_), hs.nocells hg fun r e => (hr r e).2⟩, hb.grown hg (Nat.le_trans (Nat.le_refl _) hb.size) fun k e => ?_, Nat.le_trans hn hg.size⟩
  · have := (hr _ e.symm).1
    omega
  · have := (hr _ e).1
    omega
set_option maxRecDepth 100000 in
set_option maxHeartbeats 8000000 in
theorem sequences41_any (A : Option Addr) (n c : Nat) (xs : List Int) (w : World) (hx : Ints w w.heap.size .i64 A n c xs) (hn : n ≤ 1000000) :
    Calls Try.prog 86 #[.slice A n c] w (GivesSegs (seqs 2 xs) w) := by
  have HX := Lib.hid hx
  have hnc := hx.1
  have hl := hx.len
  have HC : Hid (Calls Try.prog 94 #[.slice A n c, .int .i64 255] (w.alloc (.cells #[.slice none 0 0] 35)) fun e w' => e = .returned (.func (.func 96) #[] #[.pointer (some ⟨w.heap.size + 1, 0, none⟩), .pointer (some ⟨w.heap.size + 2, 0, none⟩)]) ∧
      ((w.alloc (.cells #[.slice none 0 0] 35)).alloc (.cells #[.slice A n c] 52)).alloc (.cells #[.int .i64 255] 3) = w') := by
    have h := chunk_any A n c (w.alloc (.cells #[.slice none 0 0] 35))
    rw [World.size_alloc] at h
    exact h.mono fun e w' hh => ⟨hh.1, hh.2.symm⟩
  obtain ⟨W1, hW1⟩ : ∃ W1, ((w.alloc (.cells #[.slice none 0 0] 35)).alloc (.cells #[.slice A n c] 52)).alloc (.cells #[.int .i64 255] 3) = W1 := ⟨_, rfl⟩
  rw [hW1] at HC
  have bO : Boxed W1 w.heap.size 35 (.slice none 0 0) := by rw [← hW1]; exact ((Boxed.new w _ _).alloc _).alloc _
  have bS : Boxed W1 (w.heap.size + 1) 52 (.slice A n c) := by
    rw [← hW1]
    have h := Boxed.new (w.alloc (.cells #[.slice none 0 0] 35)) 52 (.slice A n c)
    rw [World.size_alloc] at h
    exact h.alloc _
  have bN : Boxed W1 (w.heap.size + 2) 3 (.int .i64 255) := by
    rw [← hW1]
    have h := Boxed.new ((w.alloc (.cells #[.slice none 0 0] 35)).alloc (.cells #[.slice A n c] 52)) 3 (.int .i64 255)
    rw [World.size_alloc, World.size_alloc] at h
    exact h
  have hz : W1.heap.size = w.heap.size + 3 := by rw [← hW1]; simp
  have hb1 : Below w.heap.size w W1 := by rw [← hW1]; exact below3 (below3 (belowA _ _) (belowA _ _)) (belowA _ _)
  clear hx
  refine (callsIn_wide (n := 6)).1 ?_
  refine callsIn_of_wp_marks Try.func86 rfl trivial ?_ rfl
  simp only [Try.ntmps86, List.size_toArray, List.length_cons, List.length_nil, Nat.reduceAdd, Nat.reduceSub, Array.replicate_succ, Array.replicate_zero, List.push_toArray, List.append_toArray, List.nil_append, List.cons_append]
  gi_wp2_with (refine ⟨trivial, ?_⟩; gi_at_call 94; refine (callsIn_wide.2 HC.out).mono ?_; rintro e w' ⟨rfl, rfl⟩)
  clear hW1 HC
  have hseq : SeqStopsK Fence.wide 5 Try.prog 96 #[.pointer (some ⟨w.heap.size + 1, 0, none⟩), .pointer (some ⟨w.heap.size + 2, 0, none⟩)] (fun x : Chk n => #[Value.slice (cutA A x.1.1 x.1.2) x.1.2 x.1.2]) (KpC W1.heap.size w.heap.size) (fun ys => ys.map (chkP xs) = seqs 2 xs) (fun _ => True) n W1 := by
    intro l J Jx W hW hJ hJx hY h0
    refine chunk1_in 5 (by omega) l _ _ w.heap.size W1.heap.size A n c xs hnc hl (by omega) ⟨by omega, by omega⟩ ⟨by omega, by omega⟩ J Jx hY W.heap.size hJ W ?_ ?_ h0
    · exact (hW.cell (p := ⟨w.heap.size + 1, 0, none⟩) bS.lt).trans bS.cell
    · exact (hW.cell (p := ⟨w.heap.size + 2, 0, none⟩) bN.lt).trans bN.cell
  refine wpIn_rangeFunc_ownG rfl (by omega) (gf := 96) (lb := #[.pointer (some ⟨w.heap.size + 1, 0, none⟩), .pointer (some ⟨w.heap.size + 2, 0, none⟩)]) rfl trivial (enters_of Try.func96 (by kernel_rfl) rfl) hseq kpC_t ?hKb (Below.refl _ _) (fun _ => rfl)
    (SqI w W1.heap.size xs) (fun _ _ _ => False) (sqI_own (by omega)) (fun _ _ _ _ _ hs _ _ => hs) ⟨⟨_, bO, SOut.nil _ _ _⟩, hb1, Nat.le_refl _⟩
    (fun x => { tmps := #[.slice A n c, undef, .slice none 0 0, .pointer (some ⟨w.heap.size, 0, none⟩), .slice (cutA A x.1.1 x.1.2) x.1.2 x.1.2, .slice A n c, .func (.func 96) #[] #[.pointer (some ⟨w.heap.size + 1, 0, none⟩), .pointer (some ⟨w.heap.size + 2, 0, none⟩)], .slice (cutA A x.1.1 x.1.2) x.1.2 x.1.2, undef, undef, undef, undef, undef, undef, undef], defers := [] }) ?assign ?body ?done ?stop
  case hKb =>
    intro W l o o' hl _ _ _ k hk _
    exact World.putObj_heap_other (by omega)
  case assign =>
    intro l x W K hK
    gi_wp2
    exact hK
  case body =>
    rintro l pre x W ⟨⟨v, hv, hso⟩, hB, hN⟩ hlt
    have HV := Lib.hid hv
    obtain ⟨Ao, co, rfl⟩ := hso.form
    obtain ⟨m0, hm0⟩ : ∃ m0, pre.length = m0 := ⟨_, rfl⟩
    rw [hm0] at hso HV hlt
    have HM0 := Lib.hid hm0
    have HSO := Lib.hid hso
    have HB := Lib.hid hB
    have HN := Lib.hid hN
    have hx2 := x.2
    have HXC := Lib.hid ((ints_cut HX.out hx2).below HB.out)
    have lW : w.heap.size < W.heap.size := HV.out.lt
    have hxs : x.1.2 ≤ 1000000 := by omega
    have HCELL : Hid (∀ V, Below W.heap.size W V → V.cell? ⟨w.heap.size, 0, none⟩ = some (.slice Ao m0 co)) := fun V h => Blk.cell (cs := [.slice Ao m0 co]) (Blk.keep (cs := [.slice Ao m0 co]) HV.out h) 0
    have HCUR : Hid (Below W.heap.size W W.drew) := (Below.refl _ _).drew
    clear hv hso hm0 hx2 hB hN
    gi_wp2
    refine region_round (fun _ => True) (by kernel_rfl) (by kernel_rfl) ?hno ?_
    case hno =>
      rintro ⟨a, w, h⟩
      exact h
    refine take_in (i := 1) _ (some 9) (by kernel_rfl) (by kernel_rfl) (by kernel_rfl) (by kernel_rfl) (fun _ _ _ h => h) (by rfl) (fun o ho w hSw => by cases ho; go_simp; (try with_reducible rfl)) trivial ?_
    try simp only [Act.put, List.setIfInBounds_toArray, List.set_cons_zero, List.set_cons_succ]
    refine wpAnyH_ready (rs := [0, 2]) (by kernel_rfl) (by simp) ?_
    refine AllReadyH.cons (o := _) rfl (fun K hK => ?_) (AllReadyH.cons (o := _) rfl (fun K hK => ?_) AllReadyH.nil)
    · have c0 := (HCELL.out _ HCUR.out)
      go_simp
      clear c0
      refine hK.out _ _ trivial (fun _ => ?_)
      clear hK K
      try simp only [Act.put, List.setIfInBounds_toArray, List.set_cons_zero, List.set_cons_succ]
      refine wpAnyH_ready (rs := [2]) (by kernel_rfl) (by simp) ?_
      refine AllReadyH.cons (o := _) rfl (fun K hK => ?_) AllReadyH.nil
      go_simp
      go_at_call 79
      with_reducible refine (cloneInts_any _ _ _ _ _ _ (HXC.out.below (HCUR.out.mono HB.out.size)) (Nat.le_trans HB.out.size HCUR.out.size) (by omega)).mono ?_
      rintro e wX ⟨A2, c2, rfl, hi2, hab2, hb2⟩
      have hcx := below3 HCUR.out hb2
      have lX : w.heap.size < wX.heap.size := Nat.lt_of_lt_of_le lW hcx.size
      have hsX := HSO.out.below hcx
      obtain ⟨A5, c5, w5, hr5, ho5, hb5, hk5⟩ := hsX.pushRow 2 hi2 (fun hn ad ha => ⟨Nat.le_trans HN.out (Nat.le_trans HCUR.out.size (hab2 hn ad ha)), fun e2 => by have h1 := (HSO.out.block _ e2).2; have h2 := hab2 hn ad ha; have h3 := HCUR.out.size; omega⟩) rfl (Nat.le_trans HN.out hcx.size) (by omega)
      have HR5 := Lib.hid hr5
      have HO5 := Lib.hid ho5
      have HB5 := Lib.hid hb5
      have HK5 := Lib.hid hk5
      have HCX := Lib.hid hcx
      have HCUR2 := Lib.hid hcx
      clear HCUR hr5 ho5 hb5 hk5 hsX hcx hi2 hab2 hb2
      have HCUR := HCUR2
      clear HCUR2
      refine hK.out _ _ trivial (fun _ => ?_)
      clear hK K
      try simp only [Act.put, List.setIfInBounds_toArray, List.set_cons_zero, List.set_cons_succ]
      refine take_in (i := 3) _ (some 11) (by kernel_rfl) (by kernel_rfl) (by kernel_rfl) (by kernel_rfl) (fun _ _ _ h => h) (by rfl) (fun o ho w hSw => by cases ho; go_simp; (try with_reducible rfl)) trivial ?_
      try simp only [Act.put, List.setIfInBounds_toArray, List.set_cons_zero, List.set_cons_succ]
      refine wpAnyH_ready (rs := [4]) (by kernel_rfl) (by simp) ?_
      refine AllReadyH.cons (o := _) rfl (fun K hK => ?_) AllReadyH.nil
      go_simp
      have HCUR2 := Lib.hid (below3 HCUR.out (belowA wX (.cells #[.int .i64 2, .slice A2 x.1.2 c2] 75)))
      clear HCUR
      have HCUR := HCUR2
      clear HCUR2
      refine hK.out _ _ trivial (fun _ => ?_)
      clear hK K
      try simp only [Act.put, List.setIfInBounds_toArray, List.set_cons_zero, List.set_cons_succ]
      refine wpAnyH_ready (rs := [5]) (by kernel_rfl) (by simp) ?_
      refine AllReadyH.cons (o := _) rfl (fun K hK => ?_) AllReadyH.nil
      refine step_append_run (by rfl) _ _ _ (by rfl) (by rfl) (by rfl) HR5.out ?_
      have hbx5 : Boxed w5 w.heap.size 35 (.slice Ao m0 co) := by
        have h1 : Blk wX w.heap.size 35 [.slice Ao m0 co] := Blk.keep (cs := [.slice Ao m0 co]) HV.out HCX.out
        exact Blk.below h1 HB5.out (by omega)
      have c0 := hbx5.cell
      have f0 := hbx5.frozen
      have l5 := hbx5.lt
      obtain ⟨wZ, hwZ⟩ : ∃ wZ, w5.setCell ⟨w.heap.size, 0, none⟩ (.slice A5 (m0 + 1) c5) = wZ := ⟨_, rfl⟩
      have hsZ : Save w.heap.size w5 wZ := by rw [← hwZ]; exact Save.set
      have HBZ : Hid (Boxed wZ w.heap.size 35 (.slice A5 (m0 + 1) c5)) := by
        show Boxed _ _ _ _
        rw [← hwZ]
        exact hbx5.set _
      have HSZ := Lib.hid (HO5.out.other hsZ (by omega) (by omega))
      have HSV := Lib.hid hsZ
      clear hbx5 hsZ
      refine hK.out _ _ trivial (fun _ => ?_)
      clear hK K
      try simp only [Act.put, List.setIfInBounds_toArray, List.set_cons_zero, List.set_cons_succ]
      refine wpAnyH_ready (rs := [6]) (by kernel_rfl) (by simp) ?_
      refine AllReadyH.cons (o := _) rfl (fun K hK => ?_) AllReadyH.nil
      go_simp
      refine hK.out _ _ trivial (fun _ => ?_)
      clear hK K
      try simp only [Act.put, List.setIfInBounds_toArray, List.set_cons_zero, List.set_cons_succ]
      refine wpAnyH_done (by kernel_rfl) ?_ _
      have hsz : W.heap.size ≤ wZ.heap.size := Nat.le_trans HCX.out.size (Nat.le_trans HB5.out.size HSV.out.size)
      gi_wp2
      refine ⟨⟨hsz, fun k o hk ho hoc => ?_⟩, fun k hk hne => ?_, ⟨⟨_, HBZ.out, ?_⟩, ?_, ?_⟩⟩
      · have h1 : wX.heap[k]? = some o := (HCX.out.block k (heap_lt ho)).trans ho
        have h2 := HK5.out k o h1 hoc
        exact (HSV.out.block k (heap_lt h2) (by omega)).trans h2
      · have h1 : wX.heap[k]? = W.heap[k]? := HCX.out.block k (by have := HN.out; omega)
        have h2 : w5.heap[k]? = wX.heap[k]? := HB5.out.block k (by omega)
        exact (HSV.out.block k (by have h3 := HB5.out.size; have h4 := HCX.out.size; have h5 := HN.out; omega) hne).trans (h2.trans h1)
      · have e : (pre ++ [x]).map (chkP xs) = pre.map (chkP xs) ++ [(2, (xs.drop x.1.1).take x.1.2)] := by rw [List.map_append]; rfl
        have e2 : (pre ++ [x]).length = m0 + 1 := by rw [List.length_append, HM0.out]; rfl
        rw [e, e2]
        exact HSZ.out
      · exact ((HB.out.trans (HCX.out.mono HB.out.size)).trans (HB5.out.mono (by omega))).trans (HSV.out.below (Nat.le_refl _) (Nat.le_of_lt l5))
      · exact Nat.le_trans HN.out hsz
    · go_simp
      go_at_call 79
      with_reducible refine (cloneInts_any _ _ _ _ _ _ (HXC.out.below (HCUR.out.mono HB.out.size)) (Nat.le_trans HB.out.size HCUR.out.size) (by omega)).mono ?_
      rintro e wX ⟨A2, c2, rfl, hi2, hab2, hb2⟩
      have hcx := below3 HCUR.out hb2
      have lX : w.heap.size < wX.heap.size := Nat.lt_of_lt_of_le lW hcx.size
      have hsX := HSO.out.below hcx
      obtain ⟨A5, c5, w5, hr5, ho5, hb5, hk5⟩ := hsX.pushRow 2 hi2 (fun hn ad ha => ⟨Nat.le_trans HN.out (Nat.le_trans HCUR.out.size (hab2 hn ad ha)), fun e2 => by have h1 := (HSO.out.block _ e2).2; have h2 := hab2 hn ad ha; have h3 := HCUR.out.size; omega⟩) rfl (Nat.le_trans HN.out hcx.size) (by omega)
      have HR5 := Lib.hid hr5
      have HO5 := Lib.hid ho5
      have HB5 := Lib.hid hb5
      have HK5 := Lib.hid hk5
      have HCX := Lib.hid hcx
      have HCUR2 := Lib.hid hcx
      clear HCUR hr5 ho5 hb5 hk5 hsX hcx hi2 hab2 hb2
      have HCUR := HCUR2
      clear HCUR2
      refine hK.out _ _ trivial (fun _ => ?_)
      clear hK K
      try simp only [Act.put, List.setIfInBounds_toArray, List.set_cons_zero, List.set_cons_succ]
      refine take_in (i := 3) _ (some 11) (by kernel_rfl) (by kernel_rfl) (by kernel_rfl) (by kernel_rfl) (fun _ _ _ h => h) (by rfl) (fun o ho w hSw => by cases ho; go_simp; (try with_reducible rfl)) trivial ?_
      try simp only [Act.put, List.setIfInBounds_toArray, List.set_cons_zero, List.set_cons_succ]
      refine wpAnyH_ready (rs := [0, 4]) (by kernel_rfl) (by simp) ?_
      refine AllReadyH.cons (o := _) rfl (fun K hK => ?_) (AllReadyH.cons (o := _) rfl (fun K hK => ?_) AllReadyH.nil)
      · have c0 := (HCELL.out _ HCUR.out)
        go_simp
        clear c0
        refine hK.out _ _ trivial (fun _ => ?_)
        clear hK K
        try simp only [Act.put, List.setIfInBounds_toArray, List.set_cons_zero, List.set_cons_succ]
        refine wpAnyH_ready (rs := [4]) (by kernel_rfl) (by simp) ?_
        refine AllReadyH.cons (o := _) rfl (fun K hK => ?_) AllReadyH.nil
        go_simp
        have HCUR2 := Lib.hid (below3 HCUR.out (belowA wX (.cells #[.int .i64 2, .slice A2 x.1.2 c2] 75)))
        clear HCUR
        have HCUR := HCUR2
        clear HCUR2
        refine hK.out _ _ trivial (fun _ => ?_)
        clear hK K
        try simp only [Act.put, List.setIfInBounds_toArray, List.set_cons_zero, List.set_cons_succ]
        refine wpAnyH_ready (rs := [5]) (by kernel_rfl) (by simp) ?_
        refine AllReadyH.cons (o := _) rfl (fun K hK => ?_) AllReadyH.nil
        refine step_append_run (by rfl) _ _ _ (by rfl) (by rfl) (by rfl) HR5.out ?_
        have hbx5 : Boxed w5 w.heap.size 35 (.slice Ao m0 co) := by
          have h1 : Blk wX w.heap.size 35 [.slice Ao m0 co] := Blk.keep (cs := [.slice Ao m0 co]) HV.out HCX.out
          exact Blk.below h1 HB5.out (by omega)
        have c0 := hbx5.cell
        have f0 := hbx5.frozen
        have l5 := hbx5.lt
        obtain ⟨wZ, hwZ⟩ : ∃ wZ, w5.setCell ⟨w.heap.size, 0, none⟩ (.slice A5 (m0 + 1) c5) = wZ := ⟨_, rfl⟩
        have hsZ : Save w.heap.size w5 wZ := by rw [← hwZ]; exact Save.set
        have HBZ : Hid (Boxed wZ w.heap.size 35 (.slice A5 (m0 + 1) c5)) := by
          show Boxed _ _ _ _
          rw [← hwZ]
          exact hbx5.set _
        have HSZ := Lib.hid (HO5.out.other hsZ (by omega) (by omega))
        have HSV := Lib.hid hsZ
        clear hbx5 hsZ
        refine hK.out _ _ trivial (fun _ => ?_)
        clear hK K
        try simp only [Act.put, List.setIfInBounds_toArray, List.set_cons_zero, List.set_cons_succ]
        refine wpAnyH_ready (rs := [6]) (by kernel_rfl) (by simp) ?_
        refine AllReadyH.cons (o := _) rfl (fun K hK => ?_) AllReadyH.nil
        go_simp
        refine hK.out _ _ trivial (fun _ => ?_)
        clear hK K
        try simp only [Act.put, List.setIfInBounds_toArray, List.set_cons_zero, List.set_cons_succ]
        refine wpAnyH_done (by kernel_rfl) ?_ _
        have hsz : W.heap.size ≤ wZ.heap.size := Nat.le_trans HCX.out.size (Nat.le_trans HB5.out.size HSV.out.size)
        gi_wp2
        refine ⟨⟨hsz, fun k o hk ho hoc => ?_⟩, fun k hk hne => ?_, ⟨⟨_, HBZ.out, ?_⟩, ?_, ?_⟩⟩
        · have h1 : wX.heap[k]? = some o := (HCX.out.block k (heap_lt ho)).trans ho
          have h2 := HK5.out k o h1 hoc
          exact (HSV.out.block k (heap_lt h2) (by omega)).trans h2
        · have h1 : wX.heap[k]? = W.heap[k]? := HCX.out.block k (by have := HN.out; omega)
          have h2 : w5.heap[k]? = wX.heap[k]? := HB5.out.block k (by omega)
          exact (HSV.out.block k (by have h3 := HB5.out.size; have h4 := HCX.out.size; have h5 := HN.out; omega) hne).trans (h2.trans h1)
        · have e : (pre ++ [x]).map (chkP xs) = pre.map (chkP xs) ++ [(2, (xs.drop x.1.1).take x.1.2)] := by rw [List.map_append]; rfl
          have e2 : (pre ++ [x]).length = m0 + 1 := by rw [List.length_append, HM0.out]; rfl
          rw [e, e2]
          exact HSZ.out
        · exact ((HB.out.trans (HCX.out.mono HB.out.size)).trans (HB5.out.mono (by omega))).trans (HSV.out.below (Nat.le_refl _) (Nat.le_of_lt l5))
        · exact Nat.le_trans HN.out hsz
      · go_simp
        have HCUR2 := Lib.hid (below3 HCUR.out (belowA wX (.cells #[.int .i64 2, .slice A2 x.1.2 c2] 75)))
        clear HCUR
        have HCUR := HCUR2
        clear HCUR2
        refine hK.out _ _ trivial (fun _ => ?_)
        clear hK K
        try simp only [Act.put, List.setIfInBounds_toArray, List.set_cons_zero, List.set_cons_succ]
        refine wpAnyH_ready (rs := [0]) (by kernel_rfl) (by simp) ?_
        refine AllReadyH.cons (o := _) rfl (fun K hK => ?_) AllReadyH.nil
        have c0 := (HCELL.out _ HCUR.out)
        go_simp
        clear c0
        refine hK.out _ _ trivial (fun _ => ?_)
        clear hK K
        try simp only [Act.put, List.setIfInBounds_toArray, List.set_cons_zero, List.set_cons_succ]
        refine wpAnyH_ready (rs := [5]) (by kernel_rfl) (by simp) ?_
        refine AllReadyH.cons (o := _) rfl (fun K hK => ?_) AllReadyH.nil
        refine step_append_run (by rfl) _ _ _ (by rfl) (by rfl) (by rfl) HR5.out ?_
        have hbx5 : Boxed w5 w.heap.size 35 (.slice Ao m0 co) := by
          have h1 : Blk wX w.heap.size 35 [.slice Ao m0 co] := Blk.keep (cs := [.slice Ao m0 co]) HV.out HCX.out
          exact Blk.below h1 HB5.out (by omega)
        have c0 := hbx5.cell
        have f0 := hbx5.frozen
        have l5 := hbx5.lt
        obtain ⟨wZ, hwZ⟩ : ∃ wZ, w5.setCell ⟨w.heap.size, 0, none⟩ (.slice A5 (m0 + 1) c5) = wZ := ⟨_, rfl⟩
        have hsZ : Save w.heap.size w5 wZ := by rw [← hwZ]; exact Save.set
        have HBZ : Hid (Boxed wZ w.heap.size 35 (.slice A5 (m0 + 1) c5)) := by
          show Boxed _ _ _ _
          rw [← hwZ]
          exact hbx5.set _
        have HSZ := Lib.hid (HO5.out.other hsZ (by omega) (by omega))
        have HSV := Lib.hid hsZ
        clear hbx5 hsZ
        refine hK.out _ _ trivial (fun _ => ?_)
        clear hK K
        try simp only [Act.put, List.setIfInBounds_toArray, List.set_cons_zero, List.set_cons_succ]
        refine wpAnyH_ready (rs := [6]) (by kernel_rfl) (by simp) ?_
        refine AllReadyH.cons (o := _) rfl (fun K hK => ?_) AllReadyH.nil
        go_simp
        refine hK.out _ _ trivial (fun _ => ?_)
        clear hK K
        try simp only [Act.put, List.setIfInBounds_toArray, List.set_cons_zero, List.set_cons_succ]
        refine wpAnyH_done (by kernel_rfl) ?_ _
        have hsz : W.heap.size ≤ wZ.heap.size := Nat.le_trans HCX.out.size (Nat.le_trans HB5.out.size HSV.out.size)
        gi_wp2
        refine ⟨⟨hsz, fun k o hk ho hoc => ?_⟩, fun k hk hne => ?_, ⟨⟨_, HBZ.out, ?_⟩, ?_, ?_⟩⟩
        · have h1 : wX.heap[k]? = some o := (HCX.out.block k (heap_lt ho)).trans ho
          have h2 := HK5.out k o h1 hoc
          exact (HSV.out.block k (heap_lt h2) (by omega)).trans h2
        · have h1 : wX.heap[k]? = W.heap[k]? := HCX.out.block k (by have := HN.out; omega)
          have h2 : w5.heap[k]? = wX.heap[k]? := HB5.out.block k (by omega)
          exact (HSV.out.block k (by have h3 := HB5.out.size; have h4 := HCX.out.size; have h5 := HN.out; omega) hne).trans (h2.trans h1)
        · have e : (pre ++ [x]).map (chkP xs) = pre.map (chkP xs) ++ [(2, (xs.drop x.1.1).take x.1.2)] := by rw [List.map_append]; rfl
          have e2 : (pre ++ [x]).length = m0 + 1 := by rw [List.length_append, HM0.out]; rfl
          rw [e, e2]
          exact HSZ.out
        · exact ((HB.out.trans (HCX.out.mono HB.out.size)).trans (HB5.out.mono (by omega))).trans (HSV.out.below (Nat.le_refl _) (Nat.le_of_lt l5))
        · exact Nat.le_trans HN.out hsz
  case done =>
    rintro D ys W hD hys ⟨⟨v, hv, hso⟩, hB, hN⟩ hK
    obtain ⟨Ao, co, rfl⟩ := hso.form
    have hg := grownBy_putObj' W D (.deferred none)
    have HS := Lib.hid ((hso.nocells hg fun r e => ⟨_, by cases e; exact hK, rfl⟩).mono (base' := w.heap.size) (lo' := w.heap.size) (by omega) (by omega))
    have HBE := Lib.hid (hB.grown hg hB.size fun k e => by cases e; omega)
    have HYS := Lib.hid hys
    have hc := hv.cell
    clear hso hB hg hys hN
    gi_wp2
    refine ⟨by simp, .inl ⟨_, _, rfl, run_takeDeferred hK, ?_⟩⟩
    exact ⟨_, results_tmp rfl _ _ _, Ao, _, co, rfl, by rw [← HYS.out]; exact HS.out, HBE.out⟩
  case stop =>
    rintro D c pre W _ _ h _
    exact h.elim
end Go.Proofs.Ytojgohgeagbkbaa
