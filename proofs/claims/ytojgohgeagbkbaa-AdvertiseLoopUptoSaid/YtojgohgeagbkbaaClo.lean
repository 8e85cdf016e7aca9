/- The closures of Attrs: self, preferred, outside. -/
import Derived.Test.YtojgohgeagbkbaaBox
namespace Go.Proofs.Ytojgohgeagbkbaa
open Go.RowKit

set_option linter.unusedVariables false
set_option linter.unusedSimpArgs false
set_option maxRecDepth 100000 in
theorem outside_any (og hop med pref aas aad ori : Int) (hm hp atm ha ho : Bool) (pA cA kA uA : Option Addr) (pn pc cn cc kn kc un uc : Nat) (p us : Path) (cm cl : List Int) (b : Nat) (w : World) (h : Blk w b 40 [.int .i64 og, .slice pA pn pc, .int .u32 hop, .bool hm, .int .i64 med, .bool hp, .int .i64 pref, .bool atm, .bool ha, .int .i64 aas, .int .u32 aad, .slice cA cn cc, .bool ho, .int .u32 ori, .slice kA kn kc, .slice uA un uc]) :
    Calls Try.prog 57 #[.pointer (some ⟨b, 0, none⟩)] w fun e w' => e = .returned (.tuple #[]) ∧ Blk w' b 40 [.int .i64 og, .slice pA pn pc, .int .u32 hop, .bool hm, .int .i64 med, .bool hp, .int .i64 pref, .bool atm, .bool ha, .int .i64 aas, .int .u32 aad, .slice cA cn cc, .bool false, .int .u32 0, .slice none 0 0, .slice uA un uc] ∧ Save b w w' := by
  have f12 := h.frozen 12
  have f13 := h.frozen 13
  have f14 := h.frozen 14
  have a12 := h.cell 12
  have a13 := h.cell 13
  have a14 := h.cell 14
  simp only [List.getElem?_cons_zero, List.getElem?_cons_succ] at a12 a13 a14
  have hlt := h.lt
  have H : Hid (Blk (((w.setCell ⟨b, 12, none⟩ (.bool false)).setCell ⟨b, 13, none⟩ (.int .u32 0)).setCell ⟨b, 14, none⟩ (.slice none 0 0)) b 40 [.int .i64 og, .slice pA pn pc, .int .u32 hop, .bool hm, .int .i64 med, .bool hp, .int .i64 pref, .bool atm, .bool ha, .int .i64 aas, .int .u32 aad, .slice cA cn cc, .bool false, .int .u32 0, .slice none 0 0, .slice uA un uc] ∧ Save b w (((w.setCell ⟨b, 12, none⟩ (.bool false)).setCell ⟨b, 13, none⟩ (.int .u32 0)).setCell ⟨b, 14, none⟩ (.slice none 0 0))) :=
    ⟨((h.set 12 _).set 13 _).set 14 _, (Save.set.trans Save.set).trans Save.set⟩
  clear h
  go_enter Try.func57, Try.ntmps57
  go_wp2
  go_end0
  exact ⟨rfl, H.out⟩
theorem preferred_any (og hop med pref aas aad ori : Int) (hm hp atm ha ho : Bool) (pA cA kA uA : Option Addr) (pn pc cn cc kn kc un uc : Nat) (p us : Path) (cm cl : List Int) (b : Nat) (w : World) (h : Blk w b 40 [.int .i64 og, .slice pA pn pc, .int .u32 hop, .bool hm, .int .i64 med, .bool hp, .int .i64 pref, .bool atm, .bool ha, .int .i64 aas, .int .u32 aad, .slice cA cn cc, .bool ho, .int .u32 ori, .slice kA kn kc, .slice uA un uc]) :
    Calls Try.prog 56 #[.pointer (some ⟨b, 0, none⟩)] w fun e w' => e = .returned (.tuple #[]) ∧ Blk w' b 40 [.int .i64 og, .slice pA pn pc, .int .u32 hop, .bool hm, .int .i64 med, .bool true, .int .i64 (if hp = true then pref else 100), .bool atm, .bool ha, .int .i64 aas, .int .u32 aad, .slice cA cn cc, .bool ho, .int .u32 ori, .slice kA kn kc, .slice uA un uc] ∧ Save b w w' := by
  have f5 := h.frozen 5
  have f6 := h.frozen 6
  have a5 := h.cell 5
  have a6 := h.cell 6
  simp only [List.getElem?_cons_zero, List.getElem?_cons_succ] at a5 a6
  have hlt := h.lt
  cases hp
  case true =>
    have H := Lib.hid h
    clear h
    go_enter Try.func56, Try.ntmps56
    go_wp2
    go_end0
    exact ⟨rfl, H.out, Save.refl _ _⟩
  have H : Hid (Blk ((w.setCell ⟨b, 5, none⟩ (.bool true)).setCell ⟨b, 6, none⟩ (.int .i64 100)) b 40 [.int .i64 og, .slice pA pn pc, .int .u32 hop, .bool hm, .int .i64 med, .bool true, .int .i64 100, .bool atm, .bool ha, .int .i64 aas, .int .u32 aad, .slice cA cn cc, .bool ho, .int .u32 ori, .slice kA kn kc, .slice uA un uc] ∧ Save b w ((w.setCell ⟨b, 5, none⟩ (.bool true)).setCell ⟨b, 6, none⟩ (.int .i64 100))) :=
    ⟨(h.set 5 _).set 6 _, Save.set.trans Save.set⟩
  clear h
  go_enter Try.func56, Try.ntmps56
  go_wp2
  go_end0
  exact ⟨rfl, H.out⟩
/-- the next hop, if it is to be the speaker's own address -/
def hopR (self own : Bool) (loc hop : Int) : Int := if (self || own) = true then loc else hop
theorem self_any (og hop med pref aas aad ori : Int) (hm hp atm ha ho : Bool) (pA cA kA uA : Option Addr) (pn pc cn cc kn kc un uc : Nat) (p us : Path) (cm cl : List Int) (pk pas padr ploc : Int) (pcli : Bool) (phold prest : Int) (pimp pexp : ByteArray) (pself pdamp : Bool) (own : Bool) (b8 b9 b : Nat) (w : World) (h : Blk w b 40 [.int .i64 og, .slice pA pn pc, .int .u32 hop, .bool hm, .int .i64 med, .bool hp, .int .i64 pref, .bool atm, .bool ha, .int .i64 aas, .int .u32 aad, .slice cA cn cc, .bool ho, .int .u32 ori, .slice kA kn kc, .slice uA un uc]) (h8 : Blk w b8 66 [.int .i64 pk, .int .i64 pas, .int .u32 padr, .int .u32 ploc, .bool pcli, .int .i64 phold, .int .i64 prest, .string pimp, .string pexp, .bool pself, .bool pdamp]) (h9 : Blk w b9 4 [.bool own]) :
    Calls Try.prog 55 #[.pointer (some ⟨b8, 0, none⟩), .pointer (some ⟨b9, 0, none⟩), .pointer (some ⟨b, 0, none⟩)] w fun e w' => e = .returned (.tuple #[]) ∧ Blk w' b 40 [.int .i64 og, .slice pA pn pc, .int .u32 (hopR pself own ploc hop), .bool hm, .int .i64 med, .bool hp, .int .i64 pref, .bool atm, .bool ha, .int .i64 aas, .int .u32 aad, .slice cA cn cc, .bool ho, .int .u32 ori, .slice kA kn kc, .slice uA un uc] ∧ Save b w w' := by
  have f2 := h.frozen 2
  have a2 := h.cell 2
  have p3 := h8.cell 3
  have p9 := h8.cell 9
  have o0 := h9.cell 0
  simp only [List.getElem?_cons_zero, List.getElem?_cons_succ] at a2 p3 p9 o0
  have hlt := h.lt
  have hlt8 := h8.lt
  have hlt9 := h9.lt
  have H1 := Lib.hid h
  have H2 : Hid (Blk (w.setCell ⟨b, 2, none⟩ (.int .u32 ploc)) b 40 [.int .i64 og, .slice pA pn pc, .int .u32 ploc, .bool hm, .int .i64 med, .bool hp, .int .i64 pref, .bool atm, .bool ha, .int .i64 aas, .int .u32 aad, .slice cA cn cc, .bool ho, .int .u32 ori, .slice kA kn kc, .slice uA un uc] ∧ Save b w (w.setCell ⟨b, 2, none⟩ (.int .u32 ploc))) :=
    ⟨h.set 2 _, Save.set⟩
  clear h h8 h9
  cases pself
  case true =>
    go_enter Try.func55, Try.ntmps55
    go_wp2
    go_end0
    exact ⟨rfl, H2.out⟩
  cases own
  case true =>
    go_enter Try.func55, Try.ntmps55
    go_wp2
    go_end0
    exact ⟨rfl, H2.out⟩
  go_enter Try.func55, Try.ntmps55
  go_wp2
  go_end0
  exact ⟨rfl, H1.out, Save.refl _ _⟩
end Go.Proofs.Ytojgohgeagbkbaa
