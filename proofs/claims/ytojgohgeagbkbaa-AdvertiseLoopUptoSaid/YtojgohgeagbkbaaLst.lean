/- The four lists of attributes in memory. -/
import Derived.Test.YtojgohgeagbkbaaAtt
namespace Go.Proofs.Ytojgohgeagbkbaa
open Go.RowKit

/-- attributes in memory: the four lists -/
structure Lists (w : World) (B : Nat) (pA cA kA uA : Option Addr) (pn pc cn cc kn kc un uc : Nat) (p : Path) (cm cl : List Int) (us : Path) : Prop where
  path : Segs w B pA pn pc p
  comm : Ints w B .u32 cA cn cc cm
  clus : Ints w B .u32 kA kn kc cl
  unk : Tlvs w B uA un uc us
  small : pn ≤ 1000000000 ∧ cn ≤ 1000000000 ∧ kn ≤ 1000000000 ∧ un ≤ 1000000000
theorem Lists.below {w w' : World} {B : Nat} {pA cA kA uA : Option Addr} {pn pc cn cc kn kc un uc : Nat} {p us : Path} {cm cl : List Int} (h : Lists w B pA cA kA uA pn pc cn cc kn kc un uc p cm cl us) (hb : Below B w w') : Lists w' B pA cA kA uA pn pc cn cc kn kc un uc p cm cl us :=
  ⟨h.path.below hb, h.comm.below hb, h.clus.below hb, h.unk.below hb, h.small⟩
theorem Lists.more {w : World} {B B' : Nat} {pA cA kA uA : Option Addr} {pn pc cn cc kn kc un uc : Nat} {p us : Path} {cm cl : List Int} (h : Lists w B pA cA kA uA pn pc cn cc kn kc un uc p cm cl us) (hb : B ≤ B') : Lists w B' pA cA kA uA pn pc cn cc kn kc un uc p cm cl us :=
  ⟨h.path.more hb, h.comm.more hb, h.clus.more hb, h.unk.more hb, h.small⟩
theorem Lists.grow {w w' : World} {B : Nat} {pA cA kA uA : Option Addr} {pn pc cn cc kn kc un uc : Nat} {p us : Path} {cm cl : List Int} (h : Lists w B pA cA kA uA pn pc cn cc kn kc un uc p cm cl us) (hb : Below B w w') (hB : B ≤ w.heap.size) : Lists w' w'.heap.size pA cA kA uA pn pc cn cc kn kc un uc p cm cl us :=
  (h.below hb).more (Nat.le_trans hB hb.size)
end Go.Proofs.Ytojgohgeagbkbaa
