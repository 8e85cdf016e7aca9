/- Attrs, plain: what the attributes become. -/
import Derived.Test.YtojgohgeagbkbaaClo
import Derived.Test.YtojgohgeagbkbaaPvC
import Derived.Test.YtojgohgeagbkbaaMay
import Derived.Test.YtojgohgeagbkbaaPrepend
import Derived.Test.YtojgohgeagbkbaaAttChk
namespace Go.Proofs.Ytojgohgeagbkbaa
open Go.RowKit

def zeroAtt : Att := ⟨0, [], 0, false, 0, false, 0, false, false, 0, 0, [], false, 0, [], []⟩
/-- for an external peer -/
def extR (asn cfd rpeer : Int) (q : PeerV) (a : Att) : Att × Int :=
  (⟨a.origin, (prependR (stripR a.path) 2 (if cfd = 0 then asn else cfd) 1).1, q.loc, if (rpeer == -1) = true then a.hasMED else false, if (rpeer == -1) = true then a.med else 0, false, 0, a.atomic, a.hasAggr, a.aggrAS, a.aggrAddr, a.comm, false, 0, [], a.unk⟩,
    (prependR (stripR a.path) 2 (if cfd = 0 then asn else cfd) 1).2)
/-- for a peer of the confederation -/
def confR (asn rpeer : Int) (q : PeerV) (a : Att) : Att × Int :=
  (⟨a.origin, (prependR a.path 3 asn 1).1, hopR q.self (rpeer == -1) q.loc a.hop, a.hasMED, a.med, true, if a.hasPref = true then a.pref else 100, a.atomic, a.hasAggr, a.aggrAS, a.aggrAddr, a.comm, false, 0, [], a.unk⟩, (prependR a.path 3 asn 1).2)
/-- reflected -/
def reflR (rtr clt rrtr : Int) (a : Att) : Att × Int :=
  (⟨a.origin, a.path, a.hop, a.hasMED, a.med, true, if a.hasPref = true then a.pref else 100, a.atomic, a.hasAggr, a.aggrAS, a.aggrAddr, a.comm, true, if a.hasOrig = true then a.orig else rrtr, clusterR clt rtr :: a.clus, a.unk⟩, 0)
/-- for an internal peer -/
def intrR (rpeer : Int) (q : PeerV) (a : Att) : Att × Int :=
  (⟨a.origin, a.path, hopR q.self (rpeer == -1) q.loc a.hop, a.hasMED, a.med, true, if a.hasPref = true then a.pref else 100, a.atomic, a.hasAggr, a.aggrAS, a.aggrAddr, a.comm, false, 0, [], a.unk⟩, 0)
def chgR (asn cfd rtr clt rpeer rkind rrtr : Int) (q : PeerV) (a : Att) : Att × Int :=
  if (q.kind == 1) = true then extR asn cfd rpeer q a else if (q.kind == 2) = true then confR asn rpeer q a else if reflB rkind q.kind = true then reflR rtr clt rrtr a else if (q.kind == 3) = true then intrR rpeer q a else (a, 0)
/-- the end: the list of clusters, the check -/
def endR (r : Att × Int) : Att × Int :=
  if (r.2 == 0) = true then (if decide (64 < r.1.clus.length) = true then (zeroAtt, 4) else if (attErr r.1 == 0) = true then (r.1, 0) else (zeroAtt, attErr r.1)) else (zeroAtt, r.2)
def attrsR (ti : Int) (ps : List PeerV) (asn cfd rtr clt rpeer rkind rrtr : Int) (a : Att) : Att × Int :=
  if hasB ti ps.length = false then (zeroAtt, 5) else if mayR ti ps rpeer rkind a.comm = false then (zeroAtt, 18) else
    match ps[ti.toNat]? with | none => (zeroAtt, 0) | some q => endR (chgR asn cfd rtr clt rpeer rkind rrtr q a)
/-- attributes and an error are returned -/
def GivesAtt (b : Att × Int) (w : World) (e : Ending) (w' : World) : Prop :=
  ∃ (pA cA kA uA : Option Addr) (pn pc cn cc kn kc un uc : Nat), e = .returned (.tuple #[.agg #[.int .i64 b.1.origin, .slice pA pn pc, .int .u32 b.1.hop, .bool b.1.hasMED, .int .i64 b.1.med, .bool b.1.hasPref, .int .i64 b.1.pref, .bool b.1.atomic, .bool b.1.hasAggr, .int .i64 b.1.aggrAS, .int .u32 b.1.aggrAddr, .slice cA cn cc, .bool b.1.hasOrig, .int .u32 b.1.orig, .slice kA kn kc, .slice uA un uc], .int .i64 b.2]) ∧
    Lists w' w'.heap.size pA cA kA uA pn pc cn cc kn kc un uc b.1.path b.1.comm b.1.clus b.1.unk ∧ Below w.heap.size w w'
theorem lists_zero (w : World) (B : Nat) : Lists w B none none none none 0 0 0 0 0 0 0 0 [] [] [] [] := ⟨Segs.nil _ _, Ints.nil _ _ _, Ints.nil _ _ _, Tlvs.nil _ _, by omega, by omega, by omega, by omega⟩
theorem prepend_len (p : Path) (kind ax n : Int) : (prependR p kind ax n).1.length ≤ 64 := by
  unfold prependR
  repeat' split
  all_goals first | (simp; done) | (simp; omega) | (dsimp only; omega)
/-- the box of attributes b -/
def attCells (b : Att) (pA cA kA uA : Option Addr) (pn pc cn cc kn kc un uc : Nat) : List Value := [.int .i64 b.origin, .slice pA pn pc, .int .u32 b.hop, .bool b.hasMED, .int .i64 b.med, .bool b.hasPref, .int .i64 b.pref, .bool b.atomic, .bool b.hasAggr, .int .i64 b.aggrAS, .int .u32 b.aggrAddr, .slice cA cn cc, .bool b.hasOrig, .int .u32 b.orig, .slice kA kn kc, .slice uA un uc]
end Go.Proofs.Ytojgohgeagbkbaa
