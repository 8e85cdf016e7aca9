/- What Accept answers, in plain words. -/
import Derived.Test.YtojgohgeagbkbaaMis
import Derived.Test.YtojgohgeagbkbaaAttChk
namespace Go.Proofs.Ytojgohgeagbkbaa
open Go.RowKit

theorem firstE_all : ∀ {l : List Int}, firstE l = 0 → ∀ e ∈ l, e = 0
  | [], _, e, he => by cases he
  | x :: r, h, e, he => by
    rw [firstE] at h
    by_cases hx : x = 0
    · rw [if_pos hx] at h
      rcases List.mem_cons.1 he with rfl | he
      · exact hx
      · exact firstE_all h e he
    · rw [if_neg hx] at h
      exact absurd h hx
theorem attErr_path {a : Att} (h : attErr a = 0) : pathErr a.path = 0 := firstE_all h _ (by unfold attErrs; simp)
def accB (b1 b2 b3 b4 b5 b6 b7 b8 : Bool) : Int := cond b1 (cond (b2 || (b3 && b4)) 10 (cond (b5 && ((b6 && b7) || b8)) 10 0)) 14
/-- what a speaker answers to a peer's route -/
def acceptT (q : PeerV) (asn cfd rtr clt : Int) (a : Att) : Int := accB (begR q.kind q.asn a.path) (decide (asn ∈ flat a.path)) (cfd != 0) (decide (cfd ∈ flat a.path)) (q.kind == 3) a.hasOrig (a.orig == rtr) (memB a.clus (clusterR clt rtr))
def acceptR (i : Int) (ps : List PeerV) (asn cfd rtr clt : Int) (a : Att) : Int :=
  if hasB i ps.length = false then 5 else if attErr a = 0 then (match ps[i.toNat]? with | some q => acceptT q asn cfd rtr clt a | none => 0) else attErr a
theorem acceptR_no {i : Int} {ps : List PeerV} (h : hasB i ps.length = false) (asn cfd rtr clt : Int) (a : Att) : acceptR i ps asn cfd rtr clt a = 5 := if_pos h
theorem acceptR_err {i : Int} {ps : List PeerV} {a : Att} (h : hasB i ps.length = true) (ha : ¬ attErr a = 0) (asn cfd rtr clt : Int) : acceptR i ps asn cfd rtr clt a = attErr a := by
  unfold acceptR
  rw [if_neg (by rw [h]; simp), if_neg ha]
theorem acceptR_at {j : Nat} {ps : List PeerV} {a : Att} {q : PeerV} (hq : ps[j]? = some q) (ha : attErr a = 0) (asn cfd rtr clt : Int) : acceptR (j : Int) ps asn cfd rtr clt a = acceptT q asn cfd rtr clt a := by
  have hj := (List.getElem?_eq_some_iff.1 hq).1
  unfold acceptR
  rw [if_neg, if_pos ha, Int.toNat_natCast, hq]
  unfold hasB
  rw [decide_eq_true (show (0 : Int) ≤ (j : Int) by omega), decide_eq_true (show (j : Int) < (ps.length : Int) by omega)]
  simp
theorem hasB_nat {i : Int} {n : Nat} (h : hasB i n = true) : ∃ j : Nat, i = (j : Int) ∧ j < n := by
  unfold hasB at h
  rw [Bool.and_eq_true, decide_eq_true_eq, decide_eq_true_eq] at h
  exact ⟨i.toNat, by omega, by omega⟩
theorem Blk.new2 (w : World) (o : Obj) (T : TypeId) (cs : Array Value) : Blk ((w.alloc o).alloc (.cells cs T)) (w.heap.size + 1) T cs.toList := by
  have := Blk.new (w.alloc o) T cs
  simpa using this
/-- the cells of a peer -/
theorem Peers.get {w : World} {B n c : Nat} {A : Option Addr} {ps : List PeerV} (h : Peers w B A n c ps) {j : Nat} (hj : j < n) :
    ∃ (b o : Nat) (q : PeerV), A = some ⟨b, o, none⟩ ∧ b < B ∧ Hid (ps[j]? = some q) ∧ w.cell? ⟨b, o + j * 11, none⟩ = some (.int .i64 q.kind) ∧ w.cell? ⟨b, o + j * 11 + 1, none⟩ = some (.int .i64 q.asn) ∧ w.cell? ⟨b, o + j * 11 + 2, none⟩ = some (.int .u32 q.addr) ∧ w.cell? ⟨b, o + j * 11 + 3, none⟩ = some (.int .u32 q.loc) ∧ w.cell? ⟨b, o + j * 11 + 4, none⟩ = some (.bool q.client) ∧ w.cell? ⟨b, o + j * 11 + 5, none⟩ = some (.int .i64 q.hold) ∧ w.cell? ⟨b, o + j * 11 + 6, none⟩ = some (.int .i64 q.rest) ∧ w.cell? ⟨b, o + j * 11 + 7, none⟩ = some (.string q.pin) ∧ w.cell? ⟨b, o + j * 11 + 8, none⟩ = some (.string q.pout) ∧ w.cell? ⟨b, o + j * 11 + 9, none⟩ = some (.bool q.self) ∧ w.cell? ⟨b, o + j * 11 + 10, none⟩ = some (.bool q.damp) := by
  obtain ⟨b, o, q, e, hb, hf, hc⟩ := Recs.get PeerV.vals_len h hj
  exact ⟨b, o, q, e, hb, hf, hc 0 (by omega), hc 1 (by omega), hc 2 (by omega), hc 3 (by omega), hc 4 (by omega), hc 5 (by omega), hc 6 (by omega), hc 7 (by omega), hc 8 (by omega), hc 9 (by omega), hc 10 (by omega)⟩
theorem Peers.len {w : World} {B n c : Nat} {A : Option Addr} {ps : List PeerV} (h : Peers w B A n c ps) : ps.length = n := h.2
end Go.Proofs.Ytojgohgeagbkbaa
