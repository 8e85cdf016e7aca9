/- list, word: numbers as text. -/
import Derived.Test.YteohdanlcaoaiaaDoorTextLaw
namespace Go.Proofs.YteohdanlcaoaiaaDoor
open Go.RowKit

theorem decimal_s (x : Int) (w : World) (h0 : 1 ≤ x) (h1 : x ≤ 4294967295) (henv : Env w) :
    Calls Tryd.prog 60 #[.int .i64 x] w fun e w' => e = .returned (.string (strB (Lib.itoa x))) ∧ Below w.heap.size w w' := decimal_any x (by omega) (by omega) w henv
theorem refDecimal_s (x : Int) (w : World) (h0 : 1 ≤ x) (h1 : x ≤ 4294967295) :
    Calls Tryd.prog 61 #[.int .i64 x] w fun e w' => e = .returned (.string (strB (Lib.itoa x))) ∧ Below w.heap.size w w' := refDecimal_any x w (by omega) (by omega)
def LsInv (w : World) (c : UInt8) (l : List Int) (o : List UInt8) (n : Nat) (sv iv : Value) (W : World) : Prop :=
  ∃ (k : Nat) (b : ByteArray), k ≤ n ∧ iv = .int .i64 k ∧ sv = .string b ∧ Hid (b.data.toList = o ++ sepd c (l.take k)) ∧ Hid (Below w.heap.size w W)
set_option maxHeartbeats 2000000 in
theorem list_any (A : Option Addr) (n c B : Nat) (l : List Int) (sb : ByteArray) (sc : UInt8) (w : World) (hx : Ints w B .i64 A n c l) (hB : B ≤ w.heap.size) (hsb : sb.data.toList = [sc]) (hr : rangeB l = true) (hn : n ≤ 2000000) (henv : Env w) :
    Calls Tryd.prog 50 #[.slice A n c, .string sb] w fun e w' => e = .returned (.string (strB (sepd sc l))) ∧ Below w.heap.size w w' := by
  have HX := Lib.hid hx
  have HL := Lib.hid hx.len
  have HR := Lib.hid hr
  have HSB := Lib.hid hsb
  have hs1 : sb.size = 1 := by rw [size_list, hsb]; rfl
  have HENV := Lib.hid henv
  clear henv
  have HTK : Hid (∀ k, (sepd sc (l.take k)).length ≤ 22000000) := fun k => by
    have h1 := sepd_short sc (l.take k) (range_take hr k)
    have h2 : (l.take k).length ≤ n := by rw [List.length_take, hx.len]; omega
    omega
  clear hx hr hsb
  go_enter Tryd.func50, Tryd.ntmps50
  go_wp2
  go_loopw [5, 10] (fun sv iv wr => LsInv w sc l (([] : List UInt8)) n sv iv wr) (fun _ iv _ => n - (intOf iv).toNat)
  case atStart => exact ⟨0, ByteArray.empty, Nat.zero_le _, rfl, rfl, by show _ = _; simp [sepd], Below.refl _ _⟩
  case round =>
    obtain ⟨k, b, hk, rfl, rfl, hb, hbw⟩ := hrel
    have hbs : b.size ≤ 22000010 := by
      rw [size_list, hb.out, List.length_append]
      have := HTK.out k
      simp only [List.length_nil]
      omega
    by_cases hlt : k < n
    case neg =>
      obtain rfl : k = n := by omega
      have e : l.take k = l := List.take_of_length_le (Nat.le_of_eq HL.out)
      rw [e] at hb
      clear e
      have HF : Hid (b = strB (sepd sc l)) := strB_of (by rw [hb.out]; rfl)
      go_wp2
      go_ret
      exact ⟨by rw [← HF.out]; rfl, hbw.out⟩
    obtain ⟨bb, o, x, rfl, hbB, g0, hxx⟩ := (HX.out.below (hbw.out.mono hB)).cell hlt
    have hget : l[k]? = some x := by
      have h1 := hxx.out
      have h2 : k < l.length := by rw [HL.out]; exact hlt
      rw [List.getD_eq_getElem?_getD, List.getElem?_eq_getElem h2] at h1
      rw [List.getElem?_eq_getElem h2]
      exact congrArg some h1
    have hxr : 1 ≤ x ∧ x ≤ 4294967295 := by
      have h1 := HR.out
      unfold rangeB at h1
      have h2 := List.all_eq_true.1 h1 x (List.mem_of_getElem? hget)
      simpa using h2
    have hdz : (strB (Lib.itoa x)).size ≤ 10 := by rw [strB_size]; exact itoa_short hxr.1 hxr.2
    obtain ⟨d, hd⟩ : ∃ d, strB (Lib.itoa x) = d := ⟨_, rfl⟩
    have HD : Hid (d.data.toList = Lib.itoa x) := by show _ = _; rw [← hd, strB_list]
    have HC := Lib.hid (decimal_s x wr hxr.1 hxr.2 (HENV.out.below hbw.out))
    rw [hd] at HC hdz
    have hbwr : bb < wr.heap.size := by have := hbw.out.size; omega
    by_cases hk0 : k = 0
    · have dd : ¬ 0 < k := by omega
      have hsz : b.size + d.size ≤ 9223372036854775807 := by omega
      have hsz2 : (b.size : Int) + (d.size : Int) ≤ 9223372036854775807 := by omega
      have HN : Hid ((b ++ d).data.toList = ([] : List UInt8) ++ sepd sc (l.take (k + 1))) := by
        show _ = _
        rw [← sepd_next hget rfl rfl, if_pos hk0, add_list, hb.out, HD.out, List.append_assoc]
      clear hk0 hget hxr hd hb hxx
      go_wp2_with fail
      refine HC.out.mono ?_
      rintro e w2 ⟨rfl, hb2⟩
      have HB2 := Lib.hid (below3 hbw.out hb2)
      clear hb2
      go_wp2
      go_roundw
      case rel => exact ⟨k + 1, b ++ d, by omega, by go_num, rfl, HN, HB2⟩
      case measure => simp [intOf] <;> omega
    · have dd : 0 < k := by omega
      have hsz : b.size + sb.size ≤ 9223372036854775807 := by omega
      have hsz1 : (b.size : Int) + (sb.size : Int) ≤ 9223372036854775807 := by omega
      have hsz2 : b.size + sb.size + d.size ≤ 9223372036854775807 := by omega
      have hsz3 : (b.size : Int) + (sb.size : Int) + (d.size : Int) ≤ 9223372036854775807 := by omega
      have HN : Hid (((b ++ sb) ++ d).data.toList = ([] : List UInt8) ++ sepd sc (l.take (k + 1))) := by
        show _ = _
        rw [← sepd_next hget rfl rfl, if_neg hk0, add_list, add_list, hb.out, HD.out, HSB.out, List.append_assoc, List.append_assoc, List.append_assoc]
      clear hk0 hget hxr hd hb hxx hs1
      go_wp2_with fail
      refine HC.out.mono ?_
      rintro e w2 ⟨rfl, hb2⟩
      have HB2 := Lib.hid (below3 hbw.out hb2)
      clear hb2
      go_wp2
      go_roundw
      case rel => exact ⟨k + 1, (b ++ sb) ++ d, by omega, by go_num, rfl, HN, HB2⟩
      case measure => simp [intOf] <;> omega
set_option maxHeartbeats 2000000 in
theorem word_any (A : Option Addr) (n c B : Nat) (l : List Int) (sb : ByteArray) (sc : UInt8) (ob eb : ByteArray) (w : World) (hx : Ints w B .i64 A n c l) (hB : B ≤ w.heap.size) (hsb : sb.data.toList = [sc]) (hr : rangeB l = true) (hn : n ≤ 2000000) (ho : ob.size ≤ 1) (he : eb.size ≤ 1) :
    Calls Tryd.prog 52 #[.string ob, .slice A n c, .string sb, .string eb] w fun e w' => e = .returned (.string (strB (ob.data.toList ++ (sepd sc l ++ eb.data.toList)))) ∧ Below w.heap.size w w' := by
  have HX := Lib.hid hx
  have HL := Lib.hid hx.len
  have HR := Lib.hid hr
  have HSB := Lib.hid hsb
  have hs1 : sb.size = 1 := by rw [size_list, hsb]; rfl
  have ho1 : ob.data.toList.length ≤ 1 := by rw [← size_list]; exact ho
  have HTK : Hid (∀ k, (sepd sc (l.take k)).length ≤ 22000000) := fun k => by
    have h1 := sepd_short sc (l.take k) (range_take hr k)
    have h2 : (l.take k).length ≤ n := by rw [List.length_take, hx.len]; omega
    omega
  clear hx hr hsb
  go_enter Tryd.func52, Tryd.ntmps52
  go_wp2
  go_loopw [9, 15] (fun sv iv wr => LsInv w sc l (ob.data.toList) n sv iv wr) (fun _ iv _ => n - (intOf iv).toNat)
  case atStart => exact ⟨0, ob, Nat.zero_le _, rfl, rfl, by show _ = _; simp [sepd], Below.refl _ _⟩
  case round =>
    obtain ⟨k, b, hk, rfl, rfl, hb, hbw⟩ := hrel
    have hbs : b.size ≤ 22000010 := by
      rw [size_list, hb.out, List.length_append]
      have := HTK.out k
      omega
    by_cases hlt : k < n
    case neg =>
      obtain rfl : k = n := by omega
      have e : l.take k = l := List.take_of_length_le (Nat.le_of_eq HL.out)
      rw [e] at hb
      clear e
      have hsz : b.size + eb.size ≤ 9223372036854775807 := by omega
      have hsz2 : (b.size : Int) + (eb.size : Int) ≤ 9223372036854775807 := by omega
      have HF : Hid (b ++ eb = strB (ob.data.toList ++ (sepd sc l ++ eb.data.toList))) := strB_of (by rw [add_list, hb.out, List.append_assoc])
      go_wp2
      go_ret
      exact ⟨by rw [← HF.out]; rfl, hbw.out⟩
    obtain ⟨bb, o, x, rfl, hbB, g0, hxx⟩ := (HX.out.below (hbw.out.mono hB)).cell hlt
    have hget : l[k]? = some x := by
      have h1 := hxx.out
      have h2 : k < l.length := by rw [HL.out]; exact hlt
      rw [List.getD_eq_getElem?_getD, List.getElem?_eq_getElem h2] at h1
      rw [List.getElem?_eq_getElem h2]
      exact congrArg some h1
    have hxr : 1 ≤ x ∧ x ≤ 4294967295 := by
      have h1 := HR.out
      unfold rangeB at h1
      have h2 := List.all_eq_true.1 h1 x (List.mem_of_getElem? hget)
      simpa using h2
    have hdz : (strB (Lib.itoa x)).size ≤ 10 := by rw [strB_size]; exact itoa_short hxr.1 hxr.2
    obtain ⟨d, hd⟩ : ∃ d, strB (Lib.itoa x) = d := ⟨_, rfl⟩
    have HD : Hid (d.data.toList = Lib.itoa x) := by show _ = _; rw [← hd, strB_list]
    have HC := Lib.hid (refDecimal_s x wr hxr.1 hxr.2)
    rw [hd] at HC hdz
    have hbwr : bb < wr.heap.size := by have := hbw.out.size; omega
    by_cases hk0 : k = 0
    · have dd : ¬ 0 < k := by omega
      have hsz : b.size + d.size ≤ 9223372036854775807 := by omega
      have hsz2 : (b.size : Int) + (d.size : Int) ≤ 9223372036854775807 := by omega
      have HN : Hid ((b ++ d).data.toList = ob.data.toList ++ sepd sc (l.take (k + 1))) := by
        show _ = _
        rw [← sepd_next hget rfl rfl, if_pos hk0, add_list, hb.out, HD.out, List.append_assoc]
      clear hk0 hget hxr hd hb hxx
      go_wp2_with fail
      refine HC.out.mono ?_
      rintro e w2 ⟨rfl, hb2⟩
      have HB2 := Lib.hid (below3 hbw.out hb2)
      clear hb2
      go_wp2
      go_roundw
      case rel => exact ⟨k + 1, b ++ d, by omega, by go_num, rfl, HN, HB2⟩
      case measure => simp [intOf] <;> omega
    · have dd : 0 < k := by omega
      have hsz : b.size + sb.size ≤ 9223372036854775807 := by omega
      have hsz1 : (b.size : Int) + (sb.size : Int) ≤ 9223372036854775807 := by omega
      have hsz2 : b.size + sb.size + d.size ≤ 9223372036854775807 := by omega
      have hsz3 : (b.size : Int) + (sb.size : Int) + (d.size : Int) ≤ 9223372036854775807 := by omega
      have HN : Hid (((b ++ sb) ++ d).data.toList = ob.data.toList ++ sepd sc (l.take (k + 1))) := by
        show _ = _
        rw [← sepd_next hget rfl rfl, if_neg hk0, add_list, add_list, hb.out, HD.out, HSB.out, List.append_assoc, List.append_assoc, List.append_assoc]
      clear hk0 hget hxr hd hb hxx hs1
      go_wp2_with fail
      refine HC.out.mono ?_
      rintro e w2 ⟨rfl, hb2⟩
      have HB2 := Lib.hid (below3 hbw.out hb2)
      clear hb2
      go_wp2
      go_roundw
      case rel => exact ⟨k + 1, (b ++ sb) ++ d, by omega, by go_num, rfl, HN, HB2⟩
      case measure => simp [intOf] <;> omega
end Go.Proofs.YteohdanlcaoaiaaDoor
