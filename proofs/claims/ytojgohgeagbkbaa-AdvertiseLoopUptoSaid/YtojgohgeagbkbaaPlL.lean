/- The plain laws behind AdvertiseLocal and AdvertiseLoop: what Attrs answers where it answers no error, and what Accept answers to that. -/
import Derived.Test.YtojgohgeagbkbaaAtrR
import Derived.Test.YtojgohgeagbkbaaAccR
namespace Go.Proofs.Ytojgohgeagbkbaa
open Go.RowKit

theorem seqsF_kind (k : Int) : ∀ (f : Nat) (l : List Int), ∀ s ∈ seqsF f k l, s.1 = k
  | 0, l, s, h => by rw [seqsF] at h; cases h
  | f + 1, l, s, h => by
    rw [seqsF] at h
    by_cases hl : l.length = 0
    · rw [if_pos hl] at h; cases h
    · rw [if_neg hl] at h
      rcases List.mem_cons.1 h with rfl | h
      · rfl
      · exact seqsF_kind k f _ s h
theorem strip_self {p : Path} (h : ∀ s ∈ p, confB s.1 = false) : stripR p = p := by
  unfold stripR
  rw [List.filter_eq_self]
  intro s hs
  rw [h s hs]
  rfl
theorem strip_conf {p : Path} {s : Int × List Int} (h : s ∈ stripR p) : confB s.1 = false := by
  unfold stripR at h
  have := (List.mem_filter.1 h).2
  cases hc : confB s.1
  · rfl
  · rw [hc] at this; cases this
theorem flat_app (p q : Path) : flat (p ++ q) = flat p ++ flat q := by unfold flat; rw [List.flatMap_append]
theorem prepend_ok {p P : Path} {ax : Int} (h : prependR p 2 ax 1 = (P, 0)) : P = seqs 2 (ax :: flat (p.take (runL 2 p))) ++ p.drop (runL 2 p) ∧ 1 ≤ ax := by
  unfold prependR at h
  by_cases h1 : pathErr p ≠ 0
  · rw [if_pos h1] at h
    exact absurd (congrArg Prod.snd h) h1
  rw [if_neg h1, if_neg (by simp)] at h
  by_cases h2 : ax < 1 ∨ 4294967295 < ax ∨ (1 : Int) < 0 ∨ 255 < (1 : Int)
  · rw [if_pos h2] at h
    exact absurd (congrArg Prod.snd h) (by simp)
  rw [if_neg h2] at h
  split at h
  · exact absurd (congrArg Prod.snd h) (by simp)
  split at h
  · exact absurd (congrArg Prod.snd h) (by simp)
  · exact ⟨(congrArg Prod.fst h).symm, by omega⟩
theorem prepend_flat {p P : Path} {ax : Int} (h : prependR p 2 ax 1 = (P, 0)) : flat P = ax :: flat p := by
  obtain ⟨rfl, _⟩ := prepend_ok h
  rw [flat_app, seqs_flat 2 _ _ (Nat.le_refl _), List.cons_append, ← flat_app, List.take_append_drop]
theorem prepend_conf {p P : Path} {ax : Int} (h : prependR p 2 ax 1 = (P, 0)) (hp : ∀ s ∈ p, confB s.1 = false) : ∀ s ∈ P, confB s.1 = false := by
  obtain ⟨rfl, _⟩ := prepend_ok h
  intro s hs
  rcases List.mem_append.1 hs with hs | hs
  · rw [seqsF_kind 2 _ _ s hs]
    rfl
  · exact hp s (List.mem_of_mem_drop hs)
theorem endR_ok {r : Att × Int} {b : Att} (h : endR r = (b, 0)) : r = (b, 0) ∧ attErr b = 0 := by
  unfold endR at h
  by_cases h1 : (r.2 == 0) = true
  · rw [if_pos h1] at h
    by_cases h2 : decide (64 < r.1.clus.length) = true
    · rw [if_pos h2] at h
      exact absurd (congrArg Prod.snd h) (by simp)
    rw [if_neg h2] at h
    by_cases h3 : (attErr r.1 == 0) = true
    · rw [if_pos h3] at h
      have hb : r.1 = b := congrArg Prod.fst h
      have h0 : r.2 = 0 := by simpa using h1
      refine ⟨by rw [← hb, ← h0], ?_⟩
      rw [← hb]
      simpa using h3
    · rw [if_neg h3] at h
      have := congrArg Prod.snd h
      exact absurd this (by simpa using h3)
  · rw [if_neg h1] at h
    have := congrArg Prod.snd h
    exact absurd this (by simpa using h1)
theorem attrs_ok {ti : Int} {ps : List PeerV} {asn cfd rtr clt rpeer rkind rrtr : Int} {a b : Att} (h : attrsR ti ps asn cfd rtr clt rpeer rkind rrtr a = (b, 0)) :
    ∃ (j : Nat) (q : PeerV), ti = (j : Int) ∧ ps[j]? = some q ∧ chgR asn cfd rtr clt rpeer rkind rrtr q a = (b, 0) ∧ attErr b = 0 := by
  unfold attrsR at h
  by_cases h1 : hasB ti ps.length = false
  · rw [if_pos h1] at h
    exact absurd (congrArg Prod.snd h) (by simp)
  rw [if_neg h1] at h
  by_cases h2 : mayR ti ps rpeer rkind a.comm = false
  · rw [if_pos h2] at h
    exact absurd (congrArg Prod.snd h) (by simp)
  rw [if_neg h2] at h
  obtain ⟨j, rfl, hj⟩ := hasB_nat (i := ti) (n := ps.length) (by simpa using h1)
  rw [Int.toNat_natCast] at h
  have hq := List.getElem?_eq_getElem hj
  rw [hq] at h
  obtain ⟨h3, h4⟩ := endR_ok h
  exact ⟨j, ps[j], rfl, hq, h3, h4⟩
theorem attErr_len2 {a : Att} (h : attErr a = 0) : a.path.length ≤ 64 := by
  have hq := attErr_path h
  unfold pathErr at hq
  split at hq
  · omega
  · omega
/-- the attributes for an external peer -/
theorem local_ok {asn cfd rtr clt rpeer rkind rrtr : Int} {q : PeerV} {a b : Att} (hk : q.kind = 1) (h : chgR asn cfd rtr clt rpeer rkind rrtr q a = (b, 0)) :
    b.hasPref = false ∧ b.hasOrig = false ∧ b.clus = [] ∧ stripR b.path = b.path ∧ (flat b.path).length = (flat (stripR a.path)).length + 1 ∧ b.comm = a.comm ∧
      flat b.path = (if cfd = 0 then asn else cfd) :: flat (stripR a.path) ∧ 1 ≤ (if cfd = 0 then asn else cfd) := by
  unfold chgR at h
  rw [if_pos (by rw [hk]; rfl)] at h
  unfold extR at h
  have h2 := congrArg Prod.snd h
  have h1 := congrArg Prod.fst h
  dsimp only at h1 h2
  have hp : prependR (stripR a.path) 2 (if cfd = 0 then asn else cfd) 1 = ((prependR (stripR a.path) 2 (if cfd = 0 then asn else cfd) 1).1, 0) := Prod.ext rfl h2
  have hf := prepend_flat hp
  have hc := prepend_conf hp (fun s hs => strip_conf hs)
  subst h1
  dsimp only
  exact ⟨rfl, rfl, rfl, strip_self hc, by rw [hf, List.length_cons], rfl, hf, (prepend_ok hp).2⟩
theorem accB_loop {b1 b2 b3 b4 : Bool} (b5 b6 b7 b8 : Bool) (h : b2 = true ∨ (b3 = true ∧ b4 = true)) : accB b1 b2 b3 b4 b5 b6 b7 b8 = 10 ∨ accB b1 b2 b3 b4 b5 b6 b7 b8 = 14 := by
  rcases h with rfl | ⟨rfl, rfl⟩ <;> cases b1 <;> simp [accB]
/-- a speaker of the same AS or confederation -/
theorem loop_same {q' : PeerV} {ax asn' cfd' rtr' clt' : Int} {b : Att} (h1 : 1 ≤ ax) (hf : ax ∈ flat b.path) (hs : asn' = ax ∨ cfd' = ax) :
    acceptT q' asn' cfd' rtr' clt' b = 10 ∨ acceptT q' asn' cfd' rtr' clt' b = 14 := by
  unfold acceptT
  refine accB_loop _ _ _ _ ?_
  rcases hs with rfl | rfl
  · exact .inl (by simpa using hf)
  · exact .inr ⟨by simp; omega, by simpa using hf⟩
/-- a speaker of the same cluster -/
theorem loop_refl {asn cfd rtr clt rpeer rkind rrtr asn' cfd' rtr' clt' : Int} {q q' : PeerV} {a b : Att} (hk : q.kind = 3) (hr : rkind = 3) (h : chgR asn cfd rtr clt rpeer rkind rrtr q a = (b, 0))
    (hc : clusterR clt' rtr' = clusterR clt rtr) (hq : q'.kind = 3) : acceptT q' asn' cfd' rtr' clt' b = 10 := by
  unfold chgR at h
  rw [if_neg (by rw [hk]; decide), if_neg (by rw [hk]; decide), if_pos (by rw [hk, hr]; rfl)] at h
  have h1 := congrArg Prod.fst h
  unfold reflR at h1
  dsimp only at h1
  subst h1
  unfold acceptT
  rw [hq, begR3 _ _ (by decide) (by decide), hc]
  dsimp only
  have : memB (clusterR clt rtr :: a.clus) (clusterR clt rtr) = true := by simp [memB]
  rw [this]
  simp [accB]
theorem flat_bits8 : ∀ us : Path, (flat us).length ≤ 8 * ((us.map fun t => t.2.length / 8).sum : Nat) + 7 * us.length
  | [] => by simp [flat]
  | s :: r => by
    have h1 := flat_bits8 r
    have e1 : (((s :: r).map fun t => t.2.length / 8).sum : Nat) = s.2.length / 8 + ((r.map fun t => t.2.length / 8).sum : Nat) := by simp
    have e2 : (flat (s :: r)).length = s.2.length + (flat r).length := by simp [flat]
    rw [e1, e2, List.length_cons]
    omega
end Go.Proofs.Ytojgohgeagbkbaa
