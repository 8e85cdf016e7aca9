/- The contracts of the Go library that chapter 52 calls, laid at this dump: written by lay-shelf.mjs and lay-plain.mjs; the comments struck. The table of the library that strconv.Itoa reads; Itoa. The text of a group, plain: two groups have it in common only if they are equal. text: the walk. What is kept of a world: the blocks of which P holds. Append of one record to a row of the call's own. -/
import Derived.Shelf.Strconv.Itoa0
import Derived.Shelf.Strconv.Itoa1
import Derived.Shelf.LaysM
import Derived.Shelf.Strconv.Itoa2
import Derived.Shelf.Strconv.Itoa3
import Derived.Test.YtplppbgkkfjknaaGreatDoorProg
import Derived.Test.YtplppbgkkfjknaaGreatDoorG1
import Derived.WalkSmall
import Derived.Test.YtplppbgkkfjknaaGreatDoorG7
import Derived.Lib.ItoaMem
import Derived.Lib.ItoaLen
import Derived.Test.YtplppbgkkfjknaaGreatDoorG8
namespace Go.Proofs
open Go.Shelf
def Tryz.lays129_ren : Go.Shelf.Ren := ⟨fun | 129 => 138 | n => n, fun | 53 => 166 | 3 => 3 | 4 => 4 | 46 => 151 | 5 => 5 | 9 => 9 | n => n, fun | n => n⟩
theorem Tryz.lays129 : Go.Proofs.Lays.n129 Tryz.prog Tryz.lays129_ren := {
  mixed := by kernel_rfl
  f129 := Tryz.func138.trans (congrArg some (by kernel_rfl))
  t3 := Tryz.underlying3
  a3 := Tryz.isAgg3
  z3 := Tryz.sizeOf3
  v3 := Tryz.zeroValue3
  t4 := Tryz.underlying4
  a4 := Tryz.isAgg4
  z4 := Tryz.sizeOf4
  v4 := Tryz.zeroValue4
  t5 := Tryz.underlying5
  a5 := Tryz.isAgg5
  z5 := Tryz.sizeOf5
  v5 := Tryz.zeroValue5
  t9 := Tryz.underlying9
  a9 := Tryz.isAgg9
  z9 := Tryz.sizeOf9
  v9 := Tryz.zeroValue9
  t46 := Tryz.underlying151
  a46 := Tryz.isAgg151
  z46 := Tryz.sizeOf151
  v46 := Tryz.zeroValue151
  t53 := Tryz.underlying166
  a53 := Tryz.isAgg166
  z53 := Tryz.sizeOf166
  v53 := Tryz.zeroValue166 }
theorem Tryz.bits_Len64 (x : Int) (w : World) (h0 : 0 ≤ x) (h1 : x ≤ 18446744073709551615) :
    Calls Tryz.prog 138 #[.int .u64 x] w fun e w' => e = .returned (.int .i64 (Lib.bitLen x.toNat)) ∧ w' = w := Any.bits_Len64 Tryz.lays129 x w h0 h1
def Tryz.lays317_ren : Go.Shelf.Ren := ⟨fun | 317 => 137 | n => n, fun | 3 => 3 | 46 => 151 | n => n, fun | n => n⟩
theorem Tryz.lays317 : Go.Proofs.Lays.n317 Tryz.prog Tryz.lays317_ren := {
  mixed := by kernel_rfl
  f317 := Tryz.func137.trans (congrArg some (by kernel_rfl))
  t3 := Tryz.underlying3
  a3 := Tryz.isAgg3
  z3 := Tryz.sizeOf3
  v3 := Tryz.zeroValue3
  t46 := Tryz.underlying151
  a46 := Tryz.isAgg151
  z46 := Tryz.sizeOf151
  v46 := Tryz.zeroValue151 }
open Go.Lib in
theorem Tryz.internal_strconv_log10Pow2 (x : Nat) (h : x ≤ 64) (w : World) :
    Calls Tryz.prog 137 #[.int .i64 x] w fun e w' => e = .returned (.int .i64 (Lib.l10 x)) ∧ w' = w := Any.internal_strconv_log10Pow2 Tryz.lays317 x h w
def Tryz.lays318_ren : Go.Shelf.Ren := ⟨fun | 318 => 139 | n => n, fun | 3 => 3 | 4 => 4 | n => n, fun | n => n⟩
theorem Tryz.lays318 : Go.Proofs.Lays.n318 Tryz.prog Tryz.lays318_ren := {
  mixed := by kernel_rfl
  f318 := Tryz.func139.trans (congrArg some (by kernel_rfl))
  t3 := Tryz.underlying3
  a3 := Tryz.isAgg3
  z3 := Tryz.sizeOf3
  v3 := Tryz.zeroValue3
  t4 := Tryz.underlying4
  a4 := Tryz.isAgg4
  z4 := Tryz.sizeOf4
  v4 := Tryz.zeroValue4 }
open Go.Lib in
theorem Tryz.internal_strconv_bool2_int (b : Bool) (w : World) :
    Calls Tryz.prog 139 #[.bool b] w fun e w' => e = .returned (.int .i64 (if b then 1 else 0)) ∧ w' = w := Any.internal_strconv_bool2_int Tryz.lays318 b w
def Tryz.lays283_ren : Go.Shelf.Ren := ⟨fun | 283 => 133 | n => n, fun | 3 => 3 | 9 => 9 | 4 => 4 | n => n, fun | n => n⟩
theorem Tryz.lays283 : Go.Proofs.Lays.n283 Tryz.prog Tryz.lays283_ren := {
  mixed := by kernel_rfl
  f283 := Tryz.func133.trans (congrArg some (by kernel_rfl))
  t3 := Tryz.underlying3
  a3 := Tryz.isAgg3
  z3 := Tryz.sizeOf3
  v3 := Tryz.zeroValue3
  t4 := Tryz.underlying4
  a4 := Tryz.isAgg4
  z4 := Tryz.sizeOf4
  v4 := Tryz.zeroValue4
  t9 := Tryz.underlying9
  a9 := Tryz.isAgg9
  z9 := Tryz.sizeOf9
  v9 := Tryz.zeroValue9 }
open Go.Lib in
theorem Tryz.internal_strconv_small (i : Nat) (h : i < 100) (w : World) :
    Calls Tryz.prog 133 #[.int .i64 i] w fun e w' => e = .returned (.string ⟨(Lib.decDigits i).toArray⟩) ∧ w' = w := Any.internal_strconv_small Tryz.lays283 i h w
def Tryz.laysM284_ren : Go.Shelf.Ren := ⟨fun | 284 => 134 | 129 => 138 | 317 => 137 | 318 => 139 | n => n, fun | 53 => 166 | 3 => 3 | 212 => 197 | 0 => 0 | 4 => 4 | 46 => 151 | 5 => 5 | 9 => 9 | n => n, fun | 17 => 0 | n => n⟩
theorem Tryz.laysM284 : Go.Proofs.LaysM.n284 Tryz.prog Tryz.laysM284_ren := {
  mixed := by kernel_rfl
  f129 := Tryz.func138.trans (congrArg some (by kernel_rfl))
  f284 := Tryz.func134.trans (congrArg some (by kernel_rfl))
  f317 := Tryz.func137.trans (congrArg some (by kernel_rfl))
  f318 := Tryz.func139.trans (congrArg some (by kernel_rfl))
  t0 := Tryz.underlying0
  a0 := Tryz.isAgg0
  z0 := Tryz.sizeOf0
  v0 := Tryz.zeroValue0
  t3 := Tryz.underlying3
  a3 := Tryz.isAgg3
  z3 := Tryz.sizeOf3
  v3 := Tryz.zeroValue3
  t4 := Tryz.underlying4
  a4 := Tryz.isAgg4
  z4 := Tryz.sizeOf4
  v4 := Tryz.zeroValue4
  t5 := Tryz.underlying5
  a5 := Tryz.isAgg5
  z5 := Tryz.sizeOf5
  v5 := Tryz.zeroValue5
  t9 := Tryz.underlying9
  a9 := Tryz.isAgg9
  z9 := Tryz.sizeOf9
  v9 := Tryz.zeroValue9
  t46 := Tryz.underlying151
  a46 := Tryz.isAgg151
  z46 := Tryz.sizeOf151
  v46 := Tryz.zeroValue151
  t53 := Tryz.underlying166
  a53 := Tryz.isAgg166
  z53 := Tryz.sizeOf166
  v53 := Tryz.zeroValue166
  t212 := Tryz.underlying197
  a212 := Tryz.isAgg197
  z212 := Tryz.sizeOf197
  v212 := Tryz.zeroValue197
  g17 := by kernel_rfl
  i0 := by kernel_rfl
  i3 := by kernel_rfl
  i4 := by kernel_rfl
  i5 := by kernel_rfl
  i9 := by kernel_rfl
  i46 := by kernel_rfl
  i53 := by kernel_rfl
  i212 := by kernel_rfl
  m17 := by kernel_rfl }
open Go.Lib in
theorem Tryz.internal_strconv_numDigits (u : Nat) (h1 : 1 ≤ u) (h2 : u < 18446744073709551616) (w : World) (htab : Lib.TabIs Tryz.prog w "internal/strconv.uint64pow10" .u64 Lib.pow10Tab) :
    Calls Tryz.prog 134 #[.int .u64 u] w fun e w' => e = .returned (.int .i64 (Lib.nDigits u)) ∧ w' = w := Any.internal_strconv_numDigits Tryz.laysM284 u h1 h2 w htab
def Tryz.lays285_ren : Go.Shelf.Ren := ⟨fun | 285 => 135 | n => n, fun | 37 => 171 | 53 => 166 | 3 => 3 | 4 => 4 | 51 => 41 | 9 => 9 | 5 => 5 | 0 => 0 | n => n, fun | n => n⟩
theorem Tryz.lays285 : Go.Proofs.Lays.n285 Tryz.prog Tryz.lays285_ren := {
  mixed := by kernel_rfl
  f285 := Tryz.func135.trans (congrArg some (by kernel_rfl))
  t0 := Tryz.underlying0
  a0 := Tryz.isAgg0
  z0 := Tryz.sizeOf0
  v0 := Tryz.zeroValue0
  t3 := Tryz.underlying3
  a3 := Tryz.isAgg3
  z3 := Tryz.sizeOf3
  v3 := Tryz.zeroValue3
  t4 := Tryz.underlying4
  a4 := Tryz.isAgg4
  z4 := Tryz.sizeOf4
  v4 := Tryz.zeroValue4
  t5 := Tryz.underlying5
  a5 := Tryz.isAgg5
  z5 := Tryz.sizeOf5
  v5 := Tryz.zeroValue5
  t9 := Tryz.underlying9
  a9 := Tryz.isAgg9
  z9 := Tryz.sizeOf9
  v9 := Tryz.zeroValue9
  t37 := Tryz.underlying171
  a37 := Tryz.isAgg171
  z37 := Tryz.sizeOf171
  v37 := Tryz.zeroValue171
  t51 := Tryz.underlying41
  a51 := Tryz.isAgg41
  z51 := Tryz.sizeOf41
  v51 := Tryz.zeroValue41
  t53 := Tryz.underlying166
  a53 := Tryz.isAgg166
  z53 := Tryz.sizeOf166
  v53 := Tryz.zeroValue166 }
open Go.RowKit Go.Sort Go.Lib in
theorem Tryz.internal_strconv_formatBase10 (blk off cap : Nat) (u : Nat) (d : Array UInt8) (w : World) (hH : Holds (fun (b : UInt8) => Value.int .u8 (b.toNat : Int)) w blk off d) (hu : u < 10 ^ d.size) (hu64 : u < 18446744073709551616) (hsz : d.size < 4611686018427387904) :
    Calls Tryz.prog 135 #[.slice (some ⟨blk, off, none⟩) d.size cap, .int .u64 u] w fun e w' =>
      e = .returned (.tuple #[]) ∧ ∃ (n v' : Nat) (dk : Array UInt8), w' = (putRow (fun (b : UInt8) => Value.int .u8 (b.toNat : Int)) w blk off dk).drewN n ∧ FmtInv d.size u 0 v' dk := Any.internal_strconv_formatBase10 Tryz.lays285 blk off cap u d w hH hu hu64 hsz
def Tryz.laysM246_ren : Go.Shelf.Ren := ⟨fun | 246 => 132 | 283 => 133 | 284 => 134 | 285 => 135 | 286 => 136 | 129 => 138 | 317 => 137 | 318 => 139 | 319 => 140 | 320 => 141 | 337 => 142 | 338 => 143 | n => n, fun | 2 => 2 | 3 => 3 | 9 => 9 | 4 => 4 | 171 => 190 | 0 => 0 | 53 => 166 | 37 => 171 | 5 => 5 | 173 => 193 | 212 => 197 | 51 => 41 | 20 => 20 | 213 => 198 | 46 => 151 | 232 => 201 | 233 => 202 | n => n, fun | 17 => 0 | 18 => 1 | 19 => 2 | n => n⟩
theorem Tryz.laysM246 : Go.Proofs.LaysM.n246 Tryz.prog Tryz.laysM246_ren := {
  mixed := by kernel_rfl
  f129 := Tryz.func138.trans (congrArg some (by kernel_rfl))
  f246 := Tryz.func132.trans (congrArg some (by kernel_rfl))
  f283 := Tryz.func133.trans (congrArg some (by kernel_rfl))
  f284 := Tryz.func134.trans (congrArg some (by kernel_rfl))
  f285 := Tryz.func135.trans (congrArg some (by kernel_rfl))
  f286 := Tryz.func136.trans (congrArg some (by kernel_rfl))
  f317 := Tryz.func137.trans (congrArg some (by kernel_rfl))
  f318 := Tryz.func139.trans (congrArg some (by kernel_rfl))
  f319 := Tryz.func140.trans (congrArg some (by kernel_rfl))
  f320 := Tryz.func141.trans (congrArg some (by kernel_rfl))
  f337 := Tryz.func142.trans (congrArg some (by kernel_rfl))
  f338 := Tryz.func143.trans (congrArg some (by kernel_rfl))
  t0 := Tryz.underlying0
  a0 := Tryz.isAgg0
  z0 := Tryz.sizeOf0
  v0 := Tryz.zeroValue0
  t2 := Tryz.underlying2
  a2 := Tryz.isAgg2
  z2 := Tryz.sizeOf2
  v2 := Tryz.zeroValue2
  t3 := Tryz.underlying3
  a3 := Tryz.isAgg3
  z3 := Tryz.sizeOf3
  v3 := Tryz.zeroValue3
  t4 := Tryz.underlying4
  a4 := Tryz.isAgg4
  z4 := Tryz.sizeOf4
  v4 := Tryz.zeroValue4
  t5 := Tryz.underlying5
  a5 := Tryz.isAgg5
  z5 := Tryz.sizeOf5
  v5 := Tryz.zeroValue5
  t9 := Tryz.underlying9
  a9 := Tryz.isAgg9
  z9 := Tryz.sizeOf9
  v9 := Tryz.zeroValue9
  t20 := Tryz.underlying20
  a20 := Tryz.isAgg20
  z20 := Tryz.sizeOf20
  v20 := Tryz.zeroValue20
  t37 := Tryz.underlying171
  a37 := Tryz.isAgg171
  z37 := Tryz.sizeOf171
  v37 := Tryz.zeroValue171
  t46 := Tryz.underlying151
  a46 := Tryz.isAgg151
  z46 := Tryz.sizeOf151
  v46 := Tryz.zeroValue151
  t51 := Tryz.underlying41
  a51 := Tryz.isAgg41
  z51 := Tryz.sizeOf41
  v51 := Tryz.zeroValue41
  t53 := Tryz.underlying166
  a53 := Tryz.isAgg166
  z53 := Tryz.sizeOf166
  v53 := Tryz.zeroValue166
  t171 := Tryz.underlying190
  a171 := Tryz.isAgg190
  z171 := Tryz.sizeOf190
  v171 := Tryz.zeroValue190
  t173 := Tryz.underlying193
  a173 := Tryz.isAgg193
  z173 := Tryz.sizeOf193
  v173 := Tryz.zeroValue193
  t212 := Tryz.underlying197
  a212 := Tryz.isAgg197
  z212 := Tryz.sizeOf197
  v212 := Tryz.zeroValue197
  t213 := Tryz.underlying198
  a213 := Tryz.isAgg198
  z213 := Tryz.sizeOf198
  t232 := Tryz.underlying201
  a232 := Tryz.isAgg201
  z232 := Tryz.sizeOf201
  v232 := Tryz.zeroValue201
  t233 := Tryz.underlying202
  a233 := Tryz.isAgg202
  z233 := Tryz.sizeOf202
  v233 := Tryz.zeroValue202
  g17 := by kernel_rfl
  g18 := by kernel_rfl
  g19 := by kernel_rfl
  i0 := by kernel_rfl
  i2 := by kernel_rfl
  i3 := by kernel_rfl
  i4 := by kernel_rfl
  i5 := by kernel_rfl
  i9 := by kernel_rfl
  i20 := by kernel_rfl
  i37 := by kernel_rfl
  i46 := by kernel_rfl
  i51 := by kernel_rfl
  i53 := by kernel_rfl
  i171 := by kernel_rfl
  i173 := by kernel_rfl
  i212 := by kernel_rfl
  i232 := by kernel_rfl
  i233 := by kernel_rfl
  m17 := by kernel_rfl
  m18 := by kernel_rfl
  m19 := by kernel_rfl }
open Go.RowKit Go.Sort Go.Lib in
theorem Tryz.internal_strconv_FormatInt_10 (n : Int) (h0 : -9223372036854775808 ≤ n) (h1 : n ≤ 9223372036854775807) (w : World) (htab : Lib.TabIs Tryz.prog w "internal/strconv.uint64pow10" .u64 Lib.pow10Tab) :
    Calls Tryz.prog 132 #[.int .i64 n, .int .i64 10] w fun e w' => e = .returned (.string ⟨(Lib.itoa n).toArray⟩) ∧ ∃ k os, w' = grow (w.drewN k) os := Any.internal_strconv_FormatInt_10 Tryz.laysM246 n h0 h1 w htab
def Tryz.lays246_ren : Go.Shelf.Ren := ⟨fun | 246 => 132 | 283 => 133 | 284 => 134 | 285 => 135 | 286 => 136 | 129 => 138 | 317 => 137 | 318 => 139 | 319 => 140 | 320 => 141 | 337 => 142 | 338 => 143 | n => n, fun | 2 => 2 | 3 => 3 | 9 => 9 | 4 => 4 | 171 => 190 | 0 => 0 | 53 => 166 | 37 => 171 | 5 => 5 | 173 => 193 | 212 => 197 | 51 => 41 | 20 => 20 | 213 => 198 | 46 => 151 | 232 => 201 | 233 => 202 | n => n, fun | 17 => 0 | 18 => 1 | 19 => 2 | n => n⟩
theorem Tryz.lays246 : Go.Proofs.Lays.n246 Tryz.prog Tryz.lays246_ren := {
  mixed := by kernel_rfl
  f129 := Tryz.func138.trans (congrArg some (by kernel_rfl))
  f246 := Tryz.func132.trans (congrArg some (by kernel_rfl))
  f283 := Tryz.func133.trans (congrArg some (by kernel_rfl))
  f284 := Tryz.func134.trans (congrArg some (by kernel_rfl))
  f285 := Tryz.func135.trans (congrArg some (by kernel_rfl))
  f286 := Tryz.func136.trans (congrArg some (by kernel_rfl))
  f317 := Tryz.func137.trans (congrArg some (by kernel_rfl))
  f318 := Tryz.func139.trans (congrArg some (by kernel_rfl))
  f319 := Tryz.func140.trans (congrArg some (by kernel_rfl))
  f320 := Tryz.func141.trans (congrArg some (by kernel_rfl))
  f337 := Tryz.func142.trans (congrArg some (by kernel_rfl))
  f338 := Tryz.func143.trans (congrArg some (by kernel_rfl))
  t0 := Tryz.underlying0
  a0 := Tryz.isAgg0
  z0 := Tryz.sizeOf0
  v0 := Tryz.zeroValue0
  t2 := Tryz.underlying2
  a2 := Tryz.isAgg2
  z2 := Tryz.sizeOf2
  v2 := Tryz.zeroValue2
  t3 := Tryz.underlying3
  a3 := Tryz.isAgg3
  z3 := Tryz.sizeOf3
  v3 := Tryz.zeroValue3
  t4 := Tryz.underlying4
  a4 := Tryz.isAgg4
  z4 := Tryz.sizeOf4
  v4 := Tryz.zeroValue4
  t5 := Tryz.underlying5
  a5 := Tryz.isAgg5
  z5 := Tryz.sizeOf5
  v5 := Tryz.zeroValue5
  t9 := Tryz.underlying9
  a9 := Tryz.isAgg9
  z9 := Tryz.sizeOf9
  v9 := Tryz.zeroValue9
  t20 := Tryz.underlying20
  a20 := Tryz.isAgg20
  z20 := Tryz.sizeOf20
  v20 := Tryz.zeroValue20
  t37 := Tryz.underlying171
  a37 := Tryz.isAgg171
  z37 := Tryz.sizeOf171
  v37 := Tryz.zeroValue171
  t46 := Tryz.underlying151
  a46 := Tryz.isAgg151
  z46 := Tryz.sizeOf151
  v46 := Tryz.zeroValue151
  t51 := Tryz.underlying41
  a51 := Tryz.isAgg41
  z51 := Tryz.sizeOf41
  v51 := Tryz.zeroValue41
  t53 := Tryz.underlying166
  a53 := Tryz.isAgg166
  z53 := Tryz.sizeOf166
  v53 := Tryz.zeroValue166
  t171 := Tryz.underlying190
  a171 := Tryz.isAgg190
  z171 := Tryz.sizeOf190
  v171 := Tryz.zeroValue190
  t173 := Tryz.underlying193
  a173 := Tryz.isAgg193
  z173 := Tryz.sizeOf193
  v173 := Tryz.zeroValue193
  t212 := Tryz.underlying197
  a212 := Tryz.isAgg197
  z212 := Tryz.sizeOf197
  v212 := Tryz.zeroValue197
  t213 := Tryz.underlying198
  a213 := Tryz.isAgg198
  z213 := Tryz.sizeOf198
  t232 := Tryz.underlying201
  a232 := Tryz.isAgg201
  z232 := Tryz.sizeOf201
  v232 := Tryz.zeroValue201
  t233 := Tryz.underlying202
  a233 := Tryz.isAgg202
  z233 := Tryz.sizeOf202
  v233 := Tryz.zeroValue202
  g17 := by kernel_rfl
  g18 := by kernel_rfl
  g19 := by kernel_rfl }
open Go.RowKit Go.Sort Go.Lib in
theorem Tryz.internal_strconv_FormatInt_10_small (i : Nat) (hi : i < 100) (w : World) :
    Calls Tryz.prog 132 #[.int .i64 i, .int .i64 10] w fun e w' => e = .returned (.string ⟨(Lib.decDigits i).toArray⟩) ∧ w' = w := Any.internal_strconv_FormatInt_10_small Tryz.lays246 i hi w
def Tryz.laysM243_ren : Go.Shelf.Ren := ⟨fun | 243 => 127 | 246 => 132 | 283 => 133 | 284 => 134 | 285 => 135 | 286 => 136 | 129 => 138 | 317 => 137 | 318 => 139 | 319 => 140 | 320 => 141 | 337 => 142 | 338 => 143 | n => n, fun | 3 => 3 | 9 => 9 | 2 => 2 | 4 => 4 | 171 => 190 | 0 => 0 | 53 => 166 | 37 => 171 | 5 => 5 | 173 => 193 | 212 => 197 | 51 => 41 | 20 => 20 | 213 => 198 | 46 => 151 | 232 => 201 | 233 => 202 | n => n, fun | 17 => 0 | 18 => 1 | 19 => 2 | n => n⟩
theorem Tryz.laysM243 : Go.Proofs.LaysM.n243 Tryz.prog Tryz.laysM243_ren := {
  mixed := by kernel_rfl
  f129 := Tryz.func138.trans (congrArg some (by kernel_rfl))
  f243 := Tryz.func127.trans (congrArg some (by kernel_rfl))
  f246 := Tryz.func132.trans (congrArg some (by kernel_rfl))
  f283 := Tryz.func133.trans (congrArg some (by kernel_rfl))
  f284 := Tryz.func134.trans (congrArg some (by kernel_rfl))
  f285 := Tryz.func135.trans (congrArg some (by kernel_rfl))
  f286 := Tryz.func136.trans (congrArg some (by kernel_rfl))
  f317 := Tryz.func137.trans (congrArg some (by kernel_rfl))
  f318 := Tryz.func139.trans (congrArg some (by kernel_rfl))
  f319 := Tryz.func140.trans (congrArg some (by kernel_rfl))
  f320 := Tryz.func141.trans (congrArg some (by kernel_rfl))
  f337 := Tryz.func142.trans (congrArg some (by kernel_rfl))
  f338 := Tryz.func143.trans (congrArg some (by kernel_rfl))
  t0 := Tryz.underlying0
  a0 := Tryz.isAgg0
  z0 := Tryz.sizeOf0
  v0 := Tryz.zeroValue0
  t2 := Tryz.underlying2
  a2 := Tryz.isAgg2
  z2 := Tryz.sizeOf2
  v2 := Tryz.zeroValue2
  t3 := Tryz.underlying3
  a3 := Tryz.isAgg3
  z3 := Tryz.sizeOf3
  v3 := Tryz.zeroValue3
  t4 := Tryz.underlying4
  a4 := Tryz.isAgg4
  z4 := Tryz.sizeOf4
  v4 := Tryz.zeroValue4
  t5 := Tryz.underlying5
  a5 := Tryz.isAgg5
  z5 := Tryz.sizeOf5
  v5 := Tryz.zeroValue5
  t9 := Tryz.underlying9
  a9 := Tryz.isAgg9
  z9 := Tryz.sizeOf9
  v9 := Tryz.zeroValue9
  t20 := Tryz.underlying20
  a20 := Tryz.isAgg20
  z20 := Tryz.sizeOf20
  v20 := Tryz.zeroValue20
  t37 := Tryz.underlying171
  a37 := Tryz.isAgg171
  z37 := Tryz.sizeOf171
  v37 := Tryz.zeroValue171
  t46 := Tryz.underlying151
  a46 := Tryz.isAgg151
  z46 := Tryz.sizeOf151
  v46 := Tryz.zeroValue151
  t51 := Tryz.underlying41
  a51 := Tryz.isAgg41
  z51 := Tryz.sizeOf41
  v51 := Tryz.zeroValue41
  t53 := Tryz.underlying166
  a53 := Tryz.isAgg166
  z53 := Tryz.sizeOf166
  v53 := Tryz.zeroValue166
  t171 := Tryz.underlying190
  a171 := Tryz.isAgg190
  z171 := Tryz.sizeOf190
  v171 := Tryz.zeroValue190
  t173 := Tryz.underlying193
  a173 := Tryz.isAgg193
  z173 := Tryz.sizeOf193
  v173 := Tryz.zeroValue193
  t212 := Tryz.underlying197
  a212 := Tryz.isAgg197
  z212 := Tryz.sizeOf197
  v212 := Tryz.zeroValue197
  t213 := Tryz.underlying198
  a213 := Tryz.isAgg198
  z213 := Tryz.sizeOf198
  t232 := Tryz.underlying201
  a232 := Tryz.isAgg201
  z232 := Tryz.sizeOf201
  v232 := Tryz.zeroValue201
  t233 := Tryz.underlying202
  a233 := Tryz.isAgg202
  z233 := Tryz.sizeOf202
  v233 := Tryz.zeroValue202
  g17 := by kernel_rfl
  g18 := by kernel_rfl
  g19 := by kernel_rfl
  i0 := by kernel_rfl
  i2 := by kernel_rfl
  i3 := by kernel_rfl
  i4 := by kernel_rfl
  i5 := by kernel_rfl
  i9 := by kernel_rfl
  i20 := by kernel_rfl
  i37 := by kernel_rfl
  i46 := by kernel_rfl
  i51 := by kernel_rfl
  i53 := by kernel_rfl
  i171 := by kernel_rfl
  i173 := by kernel_rfl
  i212 := by kernel_rfl
  i232 := by kernel_rfl
  i233 := by kernel_rfl
  m17 := by kernel_rfl
  m18 := by kernel_rfl
  m19 := by kernel_rfl }
open Go.RowKit Go.Sort Go.Lib in
theorem Tryz.internal_strconv_Itoa (n : Int) (h0 : -9223372036854775808 ≤ n) (h1 : n ≤ 9223372036854775807) (w : World) (htab : Lib.TabIs Tryz.prog w "internal/strconv.uint64pow10" .u64 Lib.pow10Tab) :
    Calls Tryz.prog 127 #[.int .i64 n] w fun e w' => e = .returned (.string ⟨(Lib.itoa n).toArray⟩) ∧ ∃ k os, w' = grow (w.drewN k) os := Any.internal_strconv_Itoa Tryz.laysM243 n h0 h1 w htab
def Tryz.lays243_ren : Go.Shelf.Ren := ⟨fun | 243 => 127 | 246 => 132 | 283 => 133 | 284 => 134 | 285 => 135 | 286 => 136 | 129 => 138 | 317 => 137 | 318 => 139 | 319 => 140 | 320 => 141 | 337 => 142 | 338 => 143 | n => n, fun | 3 => 3 | 9 => 9 | 2 => 2 | 4 => 4 | 171 => 190 | 0 => 0 | 53 => 166 | 37 => 171 | 5 => 5 | 173 => 193 | 212 => 197 | 51 => 41 | 20 => 20 | 213 => 198 | 46 => 151 | 232 => 201 | 233 => 202 | n => n, fun | 17 => 0 | 18 => 1 | 19 => 2 | n => n⟩
theorem Tryz.lays243 : Go.Proofs.Lays.n243 Tryz.prog Tryz.lays243_ren := {
  mixed := by kernel_rfl
  f129 := Tryz.func138.trans (congrArg some (by kernel_rfl))
  f243 := Tryz.func127.trans (congrArg some (by kernel_rfl))
  f246 := Tryz.func132.trans (congrArg some (by kernel_rfl))
  f283 := Tryz.func133.trans (congrArg some (by kernel_rfl))
  f284 := Tryz.func134.trans (congrArg some (by kernel_rfl))
  f285 := Tryz.func135.trans (congrArg some (by kernel_rfl))
  f286 := Tryz.func136.trans (congrArg some (by kernel_rfl))
  f317 := Tryz.func137.trans (congrArg some (by kernel_rfl))
  f318 := Tryz.func139.trans (congrArg some (by kernel_rfl))
  f319 := Tryz.func140.trans (congrArg some (by kernel_rfl))
  f320 := Tryz.func141.trans (congrArg some (by kernel_rfl))
  f337 := Tryz.func142.trans (congrArg some (by kernel_rfl))
  f338 := Tryz.func143.trans (congrArg some (by kernel_rfl))
  t0 := Tryz.underlying0
  a0 := Tryz.isAgg0
  z0 := Tryz.sizeOf0
  v0 := Tryz.zeroValue0
  t2 := Tryz.underlying2
  a2 := Tryz.isAgg2
  z2 := Tryz.sizeOf2
  v2 := Tryz.zeroValue2
  t3 := Tryz.underlying3
  a3 := Tryz.isAgg3
  z3 := Tryz.sizeOf3
  v3 := Tryz.zeroValue3
  t4 := Tryz.underlying4
  a4 := Tryz.isAgg4
  z4 := Tryz.sizeOf4
  v4 := Tryz.zeroValue4
  t5 := Tryz.underlying5
  a5 := Tryz.isAgg5
  z5 := Tryz.sizeOf5
  v5 := Tryz.zeroValue5
  t9 := Tryz.underlying9
  a9 := Tryz.isAgg9
  z9 := Tryz.sizeOf9
  v9 := Tryz.zeroValue9
  t20 := Tryz.underlying20
  a20 := Tryz.isAgg20
  z20 := Tryz.sizeOf20
  v20 := Tryz.zeroValue20
  t37 := Tryz.underlying171
  a37 := Tryz.isAgg171
  z37 := Tryz.sizeOf171
  v37 := Tryz.zeroValue171
  t46 := Tryz.underlying151
  a46 := Tryz.isAgg151
  z46 := Tryz.sizeOf151
  v46 := Tryz.zeroValue151
  t51 := Tryz.underlying41
  a51 := Tryz.isAgg41
  z51 := Tryz.sizeOf41
  v51 := Tryz.zeroValue41
  t53 := Tryz.underlying166
  a53 := Tryz.isAgg166
  z53 := Tryz.sizeOf166
  v53 := Tryz.zeroValue166
  t171 := Tryz.underlying190
  a171 := Tryz.isAgg190
  z171 := Tryz.sizeOf190
  v171 := Tryz.zeroValue190
  t173 := Tryz.underlying193
  a173 := Tryz.isAgg193
  z173 := Tryz.sizeOf193
  v173 := Tryz.zeroValue193
  t212 := Tryz.underlying197
  a212 := Tryz.isAgg197
  z212 := Tryz.sizeOf197
  v212 := Tryz.zeroValue197
  t213 := Tryz.underlying198
  a213 := Tryz.isAgg198
  z213 := Tryz.sizeOf198
  t232 := Tryz.underlying201
  a232 := Tryz.isAgg201
  z232 := Tryz.sizeOf201
  v232 := Tryz.zeroValue201
  t233 := Tryz.underlying202
  a233 := Tryz.isAgg202
  z233 := Tryz.sizeOf202
  v233 := Tryz.zeroValue202
  g17 := by kernel_rfl
  g18 := by kernel_rfl
  g19 := by kernel_rfl }
open Go.RowKit Go.Sort Go.Lib in
theorem Tryz.internal_strconv_Itoa_small (i : Nat) (hi : i < 100) (w : World) :
    Calls Tryz.prog 127 #[.int .i64 i] w fun e w' => e = .returned (.string ⟨(Lib.decDigits i).toArray⟩) ∧ w' = w := Any.internal_strconv_Itoa_small Tryz.lays243 i hi w
def Tryz.laysM171_ren : Go.Shelf.Ren := ⟨fun | 171 => 114 | 243 => 127 | 246 => 132 | 283 => 133 | 284 => 134 | 285 => 135 | 286 => 136 | 129 => 138 | 317 => 137 | 318 => 139 | 319 => 140 | 320 => 141 | 337 => 142 | 338 => 143 | n => n, fun | 3 => 3 | 9 => 9 | 2 => 2 | 4 => 4 | 171 => 190 | 0 => 0 | 53 => 166 | 37 => 171 | 5 => 5 | 173 => 193 | 212 => 197 | 51 => 41 | 20 => 20 | 213 => 198 | 46 => 151 | 232 => 201 | 233 => 202 | n => n, fun | 17 => 0 | 18 => 1 | 19 => 2 | n => n⟩
theorem Tryz.laysM171 : Go.Proofs.LaysM.n171 Tryz.prog Tryz.laysM171_ren := {
  mixed := by kernel_rfl
  f129 := Tryz.func138.trans (congrArg some (by kernel_rfl))
  f171 := Tryz.func114.trans (congrArg some (by kernel_rfl))
  f243 := Tryz.func127.trans (congrArg some (by kernel_rfl))
  f246 := Tryz.func132.trans (congrArg some (by kernel_rfl))
  f283 := Tryz.func133.trans (congrArg some (by kernel_rfl))
  f284 := Tryz.func134.trans (congrArg some (by kernel_rfl))
  f285 := Tryz.func135.trans (congrArg some (by kernel_rfl))
  f286 := Tryz.func136.trans (congrArg some (by kernel_rfl))
  f317 := Tryz.func137.trans (congrArg some (by kernel_rfl))
  f318 := Tryz.func139.trans (congrArg some (by kernel_rfl))
  f319 := Tryz.func140.trans (congrArg some (by kernel_rfl))
  f320 := Tryz.func141.trans (congrArg some (by kernel_rfl))
  f337 := Tryz.func142.trans (congrArg some (by kernel_rfl))
  f338 := Tryz.func143.trans (congrArg some (by kernel_rfl))
  t0 := Tryz.underlying0
  a0 := Tryz.isAgg0
  z0 := Tryz.sizeOf0
  v0 := Tryz.zeroValue0
  t2 := Tryz.underlying2
  a2 := Tryz.isAgg2
  z2 := Tryz.sizeOf2
  v2 := Tryz.zeroValue2
  t3 := Tryz.underlying3
  a3 := Tryz.isAgg3
  z3 := Tryz.sizeOf3
  v3 := Tryz.zeroValue3
  t4 := Tryz.underlying4
  a4 := Tryz.isAgg4
  z4 := Tryz.sizeOf4
  v4 := Tryz.zeroValue4
  t5 := Tryz.underlying5
  a5 := Tryz.isAgg5
  z5 := Tryz.sizeOf5
  v5 := Tryz.zeroValue5
  t9 := Tryz.underlying9
  a9 := Tryz.isAgg9
  z9 := Tryz.sizeOf9
  v9 := Tryz.zeroValue9
  t20 := Tryz.underlying20
  a20 := Tryz.isAgg20
  z20 := Tryz.sizeOf20
  v20 := Tryz.zeroValue20
  t37 := Tryz.underlying171
  a37 := Tryz.isAgg171
  z37 := Tryz.sizeOf171
  v37 := Tryz.zeroValue171
  t46 := Tryz.underlying151
  a46 := Tryz.isAgg151
  z46 := Tryz.sizeOf151
  v46 := Tryz.zeroValue151
  t51 := Tryz.underlying41
  a51 := Tryz.isAgg41
  z51 := Tryz.sizeOf41
  v51 := Tryz.zeroValue41
  t53 := Tryz.underlying166
  a53 := Tryz.isAgg166
  z53 := Tryz.sizeOf166
  v53 := Tryz.zeroValue166
  t171 := Tryz.underlying190
  a171 := Tryz.isAgg190
  z171 := Tryz.sizeOf190
  v171 := Tryz.zeroValue190
  t173 := Tryz.underlying193
  a173 := Tryz.isAgg193
  z173 := Tryz.sizeOf193
  v173 := Tryz.zeroValue193
  t212 := Tryz.underlying197
  a212 := Tryz.isAgg197
  z212 := Tryz.sizeOf197
  v212 := Tryz.zeroValue197
  t213 := Tryz.underlying198
  a213 := Tryz.isAgg198
  z213 := Tryz.sizeOf198
  t232 := Tryz.underlying201
  a232 := Tryz.isAgg201
  z232 := Tryz.sizeOf201
  v232 := Tryz.zeroValue201
  t233 := Tryz.underlying202
  a233 := Tryz.isAgg202
  z233 := Tryz.sizeOf202
  v233 := Tryz.zeroValue202
  g17 := by kernel_rfl
  g18 := by kernel_rfl
  g19 := by kernel_rfl
  i0 := by kernel_rfl
  i2 := by kernel_rfl
  i3 := by kernel_rfl
  i4 := by kernel_rfl
  i5 := by kernel_rfl
  i9 := by kernel_rfl
  i20 := by kernel_rfl
  i37 := by kernel_rfl
  i46 := by kernel_rfl
  i51 := by kernel_rfl
  i53 := by kernel_rfl
  i171 := by kernel_rfl
  i173 := by kernel_rfl
  i212 := by kernel_rfl
  i232 := by kernel_rfl
  i233 := by kernel_rfl
  m17 := by kernel_rfl
  m18 := by kernel_rfl
  m19 := by kernel_rfl }
open Go.RowKit Go.Sort Go.Lib in
theorem Tryz.strconv_Itoa (n : Int) (h0 : -9223372036854775808 ≤ n) (h1 : n ≤ 9223372036854775807) (w : World) (htab : Lib.TabIs Tryz.prog w "internal/strconv.uint64pow10" .u64 Lib.pow10Tab) :
    Calls Tryz.prog 114 #[.int .i64 n] w fun e w' => e = .returned (.string ⟨(Lib.itoa n).toArray⟩) ∧ ∃ k os, w' = grow (w.drewN k) os := Any.strconv_Itoa Tryz.laysM171 n h0 h1 w htab
def Tryz.lays171_ren : Go.Shelf.Ren := ⟨fun | 171 => 114 | 243 => 127 | 246 => 132 | 283 => 133 | 284 => 134 | 285 => 135 | 286 => 136 | 129 => 138 | 317 => 137 | 318 => 139 | 319 => 140 | 320 => 141 | 337 => 142 | 338 => 143 | n => n, fun | 3 => 3 | 9 => 9 | 2 => 2 | 4 => 4 | 171 => 190 | 0 => 0 | 53 => 166 | 37 => 171 | 5 => 5 | 173 => 193 | 212 => 197 | 51 => 41 | 20 => 20 | 213 => 198 | 46 => 151 | 232 => 201 | 233 => 202 | n => n, fun | 17 => 0 | 18 => 1 | 19 => 2 | n => n⟩
theorem Tryz.lays171 : Go.Proofs.Lays.n171 Tryz.prog Tryz.lays171_ren := {
  mixed := by kernel_rfl
  f129 := Tryz.func138.trans (congrArg some (by kernel_rfl))
  f171 := Tryz.func114.trans (congrArg some (by kernel_rfl))
  f243 := Tryz.func127.trans (congrArg some (by kernel_rfl))
  f246 := Tryz.func132.trans (congrArg some (by kernel_rfl))
  f283 := Tryz.func133.trans (congrArg some (by kernel_rfl))
  f284 := Tryz.func134.trans (congrArg some (by kernel_rfl))
  f285 := Tryz.func135.trans (congrArg some (by kernel_rfl))
  f286 := Tryz.func136.trans (congrArg some (by kernel_rfl))
  f317 := Tryz.func137.trans (congrArg some (by kernel_rfl))
  f318 := Tryz.func139.trans (congrArg some (by kernel_rfl))
  f319 := Tryz.func140.trans (congrArg some (by kernel_rfl))
  f320 := Tryz.func141.trans (congrArg some (by kernel_rfl))
  f337 := Tryz.func142.trans (congrArg some (by kernel_rfl))
  f338 := Tryz.func143.trans (congrArg some (by kernel_rfl))
  t0 := Tryz.underlying0
  a0 := Tryz.isAgg0
  z0 := Tryz.sizeOf0
  v0 := Tryz.zeroValue0
  t2 := Tryz.underlying2
  a2 := Tryz.isAgg2
  z2 := Tryz.sizeOf2
  v2 := Tryz.zeroValue2
  t3 := Tryz.underlying3
  a3 := Tryz.isAgg3
  z3 := Tryz.sizeOf3
  v3 := Tryz.zeroValue3
  t4 := Tryz.underlying4
  a4 := Tryz.isAgg4
  z4 := Tryz.sizeOf4
  v4 := Tryz.zeroValue4
  t5 := Tryz.underlying5
  a5 := Tryz.isAgg5
  z5 := Tryz.sizeOf5
  v5 := Tryz.zeroValue5
  t9 := Tryz.underlying9
  a9 := Tryz.isAgg9
  z9 := Tryz.sizeOf9
  v9 := Tryz.zeroValue9
  t20 := Tryz.underlying20
  a20 := Tryz.isAgg20
  z20 := Tryz.sizeOf20
  v20 := Tryz.zeroValue20
  t37 := Tryz.underlying171
  a37 := Tryz.isAgg171
  z37 := Tryz.sizeOf171
  v37 := Tryz.zeroValue171
  t46 := Tryz.underlying151
  a46 := Tryz.isAgg151
  z46 := Tryz.sizeOf151
  v46 := Tryz.zeroValue151
  t51 := Tryz.underlying41
  a51 := Tryz.isAgg41
  z51 := Tryz.sizeOf41
  v51 := Tryz.zeroValue41
  t53 := Tryz.underlying166
  a53 := Tryz.isAgg166
  z53 := Tryz.sizeOf166
  v53 := Tryz.zeroValue166
  t171 := Tryz.underlying190
  a171 := Tryz.isAgg190
  z171 := Tryz.sizeOf190
  v171 := Tryz.zeroValue190
  t173 := Tryz.underlying193
  a173 := Tryz.isAgg193
  z173 := Tryz.sizeOf193
  v173 := Tryz.zeroValue193
  t212 := Tryz.underlying197
  a212 := Tryz.isAgg197
  z212 := Tryz.sizeOf197
  v212 := Tryz.zeroValue197
  t213 := Tryz.underlying198
  a213 := Tryz.isAgg198
  z213 := Tryz.sizeOf198
  t232 := Tryz.underlying201
  a232 := Tryz.isAgg201
  z232 := Tryz.sizeOf201
  v232 := Tryz.zeroValue201
  t233 := Tryz.underlying202
  a233 := Tryz.isAgg202
  z233 := Tryz.sizeOf202
  v233 := Tryz.zeroValue202
  g17 := by kernel_rfl
  g18 := by kernel_rfl
  g19 := by kernel_rfl }
open Go.RowKit Go.Sort Go.Lib in
theorem Tryz.strconv_Itoa_small (i : Nat) (hi : i < 100) (w : World) :
    Calls Tryz.prog 114 #[.int .i64 i] w fun e w' => e = .returned (.string ⟨(Lib.decDigits i).toArray⟩) ∧ w' = w := Any.strconv_Itoa_small Tryz.lays171 i hi w
end Go.Proofs
namespace Go.Proofs.YtplppbgkkfjknaaGreatDoor
open Go.RowKit

theorem gTab : Tryz.prog.globalNamed "internal/strconv.uint64pow10" = some 0 := by kernel_rfl
/-- the variable of the library that the statements reach -/
def Env (w : World) : Prop := Lib.TabIs Tryz.prog w "internal/strconv.uint64pow10" .u64 Lib.pow10Tab ∧ 1 ≤ w.heap.size
theorem Env.below {w w' : World} (h : Env w) (hb : Below w.heap.size w w') : Env w' := by
  obtain ⟨h1, h3⟩ := h
  exact ⟨var?_below hb gTab (by omega) h1, by have := hb.size; omega⟩
theorem Env.upto {w w' : World} {B : Nat} (h : Env w) (hb : Below B w w') (hB : 1 ≤ B) : Env w' := by
  obtain ⟨h1, h3⟩ := h
  exact ⟨var?_below hb gTab (by omega) h1, by have := hb.size; omega⟩
theorem below_grow (w : World) (k : Nat) (os : Array Obj) : Below w.heap.size w (Sort.grow (w.drewN k) os) := by
  refine ⟨rfl, rfl, rfl, ?_, fun i hi => ?_⟩
  · show w.heap.size ≤ (w.heap ++ os).size
    rw [Array.size_append]
    omega
  · show (w.heap ++ os)[i]? = w.heap[i]?
    rw [Array.getElem?_append_left hi]
end Go.Proofs.YtplppbgkkfjknaaGreatDoor
namespace Go.Proofs.YtplppbgkkfjknaaGreatDoor
open Go.RowKit

set_option linter.unusedVariables false
set_option linter.unusedSimpArgs false
def strB (l : List UInt8) : ByteArray := ⟨l.toArray⟩
theorem strB_list (l : List UInt8) : (strB l).data.toList = l := by simp [strB]
theorem strB_size (l : List UInt8) : (strB l).size = l.length := by
  show l.toArray.size = _
  simp
theorem size_list (b : ByteArray) : b.size = b.data.toList.length := by rw [Array.length_toList]; rfl
theorem add_list (a b : ByteArray) : (a ++ b).data.toList = a.data.toList ++ b.data.toList := by rw [ByteArray.data_append]; simp
theorem strB_of {b : ByteArray} {l : List UInt8} (h : b.data.toList = l) : b = strB l := by
  obtain ⟨⟨d⟩⟩ := b
  subst h
  rfl
def valD (l : List UInt8) : Nat := l.foldl (fun a c => a * 10 + (c.toNat - 48)) 0
theorem dig_nat {d : Nat} (h : d < 10) : (UInt8.ofNat (48 + d)).toNat = 48 + d := by
  rw [UInt8.toNat_ofNat']
  omega
theorem dec_val : ∀ (n u : Nat), u < n → valD (Lib.decDigits u) = u
  | 0, _, h => absurd h (by omega)
  | n + 1, u, hu => by
    by_cases h : u < 10
    · rw [Lib.decDigits_one h]
      show 0 * 10 + ((UInt8.ofNat (48 + u)).toNat - 48) = u
      rw [dig_nat h]
      omega
    · have ih := dec_val n (u / 10) (by omega)
      rw [Lib.decDigits, dif_neg h]
      unfold valD at ih ⊢
      rw [List.foldl_append, ih]
      show u / 10 * 10 + ((UInt8.ofNat (48 + u % 10)).toNat - 48) = u
      rw [dig_nat (Nat.mod_lt _ (by omega))]
      omega
/-- a digit -/
def isDig (c : UInt8) : Prop := 48 ≤ c.toNat ∧ c.toNat ≤ 57
theorem dec_dig : ∀ (n u : Nat), u < n → ∀ c ∈ Lib.decDigits u, isDig c
  | 0, _, h => absurd h (by omega)
  | n + 1, u, hu => by
    intro c hc
    by_cases h : u < 10
    · rw [Lib.decDigits_one h] at hc
      obtain rfl : c = UInt8.ofNat (48 + u) := by simpa using hc
      unfold isDig
      rw [dig_nat h]
      omega
    · rw [Lib.decDigits, dif_neg h] at hc
      rcases List.mem_append.1 hc with hc | hc
      · exact dec_dig n (u / 10) (by omega) c hc
      · obtain rfl : c = UInt8.ofNat (48 + u % 10) := by simpa using hc
        unfold isDig
        rw [dig_nat (Nat.mod_lt _ (by omega))]
        omega
theorem dec_ne (u : Nat) : Lib.decDigits u ≠ [] := by
  rw [Lib.decDigits]
  split <;> simp
theorem itoa_free (n : Int) : ∀ c ∈ Lib.itoa n, c ≠ 32 ∧ c ≠ 47 := by
  intro c hc
  unfold Lib.itoa at hc
  have key : ∀ u, c ∈ Lib.decDigits u → c ≠ 32 ∧ c ≠ 47 := by
    intro u h
    have := dec_dig (u + 1) u (by omega) c h
    unfold isDig at this
    refine ⟨?_, ?_⟩ <;> (rintro rfl; revert this; decide)
  split at hc
  · rcases List.mem_cons.1 hc with rfl | hc
    · decide
    · exact key _ hc
  · exact key _ hc
theorem itoa_ne (n : Int) : Lib.itoa n ≠ [] := by
  unfold Lib.itoa
  split
  · simp
  · exact dec_ne _
theorem itoa_inj {a b : Int} (h : Lib.itoa a = Lib.itoa b) : a = b := by
  have nd : ∀ u v : Nat, Lib.decDigits u ≠ 45 :: Lib.decDigits v := by
    intro u v e
    have := dec_dig (u + 1) u (by omega) 45 (by rw [e]; exact List.mem_cons_self)
    unfold isDig at this
    revert this
    decide
  have inj : ∀ u v : Nat, Lib.decDigits u = Lib.decDigits v → u = v := by
    intro u v e
    rw [← dec_val (u + 1) u (by omega), ← dec_val (v + 1) v (by omega), e]
  unfold Lib.itoa at h
  split at h <;> split at h
  · have := inj _ _ (List.cons.inj h).2
    omega
  · exact absurd h.symm (nd _ _)
  · exact absurd h (nd _ _)
  · have := inj _ _ h
    omega
/-- begins with a separator, or is empty -/
def Stop : List UInt8 → Prop
  | [] => True
  | c :: _ => c = 32 ∨ c = 47
theorem token_split : ∀ {a b r s : List UInt8}, (∀ c ∈ a, c ≠ 32 ∧ c ≠ 47) → (∀ c ∈ b, c ≠ 32 ∧ c ≠ 47) → Stop r → Stop s → a ++ r = b ++ s → a = b ∧ r = s
  | [], [], _, _, _, _, _, _, h => ⟨rfl, h⟩
  | [], y :: b, r, s, _, hb, hr, _, h => by
    subst h
    rcases hr with hr | hr
    · exact absurd hr (hb y List.mem_cons_self).1
    · exact absurd hr (hb y List.mem_cons_self).2
  | x :: a, [], r, s, ha, _, _, hs, h => by
    subst h
    rcases hs with hs | hs
    · exact absurd hs (ha x List.mem_cons_self).1
    · exact absurd hs (ha x List.mem_cons_self).2
  | x :: a, y :: b, r, s, ha, hb, hr, hs, h => by
    obtain ⟨e, h2⟩ := List.cons.inj h
    obtain ⟨e1, e2⟩ := token_split (fun c hc => ha c (List.mem_cons_of_mem _ hc)) (fun c hc => hb c (List.mem_cons_of_mem _ hc)) hr hs h2
    exact ⟨by rw [e, e1], e2⟩
def numsT (l : List Int) : List UInt8 := l.flatMap fun n => Lib.itoa n ++ [32]
theorem numsT_cons (n : Int) (l : List Int) : numsT (n :: l) = Lib.itoa n ++ 32 :: numsT l := by
  unfold numsT
  rw [List.flatMap_cons, List.append_assoc]
  rfl
theorem numsT_app (a b : List Int) : numsT (a ++ b) = numsT a ++ numsT b := by unfold numsT; rw [List.flatMap_append]
/-- is empty or begins a path -/
def Slash : List UInt8 → Prop
  | [] => True
  | c :: _ => c = 47
theorem slash_no {n : Int} {r x : List UInt8} (hr : Slash r) : r ≠ Lib.itoa n ++ x := by
  intro e
  obtain ⟨c, t, ht⟩ : ∃ c t, Lib.itoa n = c :: t := by
    cases h : Lib.itoa n with
    | nil => exact absurd h (itoa_ne n)
    | cons c t => exact ⟨c, t, rfl⟩
  rw [ht] at e
  subst e
  exact (itoa_free n c (by rw [ht]; exact List.mem_cons_self)).2 hr
theorem numsT_inj : ∀ {l m : List Int} {r s : List UInt8}, Slash r → Slash s → numsT l ++ r = numsT m ++ s → l = m ∧ r = s
  | [], [], _, _, _, _, h => ⟨rfl, h⟩
  | [], n :: m, r, s, hr, _, h => by
    rw [numsT_cons, List.append_assoc] at h
    exact absurd h (slash_no hr)
  | n :: l, [], r, s, _, hs, h => by
    rw [numsT_cons, List.append_assoc] at h
    exact absurd h.symm (slash_no hs)
  | n :: l, k :: m, r, s, hr, hs, h => by
    rw [numsT_cons, numsT_cons, List.append_assoc, List.append_assoc] at h
    obtain ⟨e1, e2⟩ := token_split (itoa_free n) (itoa_free k) (r := 32 :: numsT l ++ r) (s := 32 :: numsT m ++ s) (Or.inl rfl) (Or.inl rfl) h
    obtain ⟨e3, e4⟩ := numsT_inj hr hs (List.cons.inj e2).2
    exact ⟨by rw [itoa_inj e1, e3], e4⟩
/-- the numbers that a path's text shows -/
def keyP (p : PV) : List Int := [p.iface, p.addr, p.router, p.weight, p.backup, (p.ls.length : Int)] ++ p.ls
def pathT (p : PV) : List UInt8 := 47 :: numsT (keyP p)
def textT (act : Int) (ps : List PV) : List UInt8 := Lib.itoa act ++ ps.flatMap pathT
theorem slash_paths : ∀ ps : List PV, Slash (ps.flatMap pathT)
  | [] => trivial
  | p :: t => by rw [List.flatMap_cons]; rfl
theorem stop_paths (ps : List PV) : Stop (ps.flatMap pathT) := by
  cases ps with
  | nil => trivial
  | cons p t => rw [List.flatMap_cons]; exact Or.inr rfl
theorem paths_inj : ∀ {ps qs : List PV}, ps.flatMap pathT = qs.flatMap pathT → ps.map keyP = qs.map keyP
  | [], [], _ => rfl
  | [], q :: qs, h => by rw [List.flatMap_cons] at h; cases h
  | p :: ps, [], h => by rw [List.flatMap_cons] at h; cases h
  | p :: ps, q :: qs, h => by
    rw [List.flatMap_cons, List.flatMap_cons] at h
    obtain ⟨e1, e2⟩ := numsT_inj (slash_paths ps) (slash_paths qs) (List.cons.inj h).2
    rw [List.map_cons, List.map_cons, e1, paths_inj e2]
theorem text_inj {a b : Int} {ps qs : List PV} (h : textT a ps = textT b qs) : a = b ∧ ps.map keyP = qs.map keyP := by
  obtain ⟨e1, e2⟩ := token_split (itoa_free a) (itoa_free b) (stop_paths ps) (stop_paths qs) h
  exact ⟨itoa_inj e1, paths_inj e2⟩
theorem keyP_dat {p q : PV} (h : keyP p = keyP q) : p.dat = q.dat := by
  obtain ⟨a, b, c, d, A, n, m, ls, k⟩ := p
  obtain ⟨a2, b2, c2, d2, A2, n2, m2, ls2, k2⟩ := q
  simp only [keyP, List.cons_append, List.nil_append, List.cons.injEq] at h
  obtain ⟨rfl, rfl, rfl, rfl, rfl, h6, rfl⟩ := h
  rfl
theorem keyP_of_dat {p q : PV} (h : p.dat = q.dat) : keyP p = keyP q := by
  show keyP p.dat = keyP q.dat
  rw [h]
theorem map_key_dat : ∀ {ps qs : List PV}, ps.map keyP = qs.map keyP → ps.map PV.dat = qs.map PV.dat
  | [], [], _ => rfl
  | [], q :: qs, h => by cases h
  | p :: ps, [], h => by cases h
  | p :: ps, q :: qs, h => by
    obtain ⟨e1, e2⟩ := List.cons.inj h
    rw [List.map_cons, List.map_cons, keyP_dat e1, map_key_dat e2]
theorem text_dat {a : Int} {ps qs : List PV} (h : ps.map PV.dat = qs.map PV.dat) : textT a ps = textT a qs := by
  have key : ∀ {ps qs : List PV}, ps.map PV.dat = qs.map PV.dat → ps.flatMap pathT = qs.flatMap pathT := by
    intro ps
    induction ps with
    | nil => intro qs h; cases qs with
      | nil => rfl
      | cons q qs => cases h
    | cons p ps ih => intro qs h; cases qs with
      | nil => cases h
      | cons q qs =>
        obtain ⟨e1, e2⟩ := List.cons.inj h
        rw [List.flatMap_cons, List.flatMap_cons, ih e2]
        unfold pathT
        rw [keyP_of_dat e1]
  unfold textT
  rw [key h]
/-- numbers of 64 bits -/
def W64 (n : Int) : Prop := -9223372036854775808 ≤ n ∧ n ≤ 9223372036854775807
def W32 (n : Int) : Prop := 0 ≤ n ∧ n ≤ 4294967295
structure WPath (p : PV) : Prop where
  iface : W64 p.iface
  addr : W32 p.addr
  router : W32 p.router
  weight : W64 p.weight
  backup : W64 p.backup
  ln : p.ls.length ≤ 140737488355328
  ls : ∀ n ∈ p.ls, W64 n
theorem WPath.key {p : PV} (h : WPath p) : ∀ n ∈ keyP p, W64 n := by
  intro n hn
  rcases List.mem_append.1 hn with hn | hn
  · have h1 := h.addr
    have h2 := h.router
    have h3 := h.ln
    unfold W32 at h1 h2
    simp only [List.mem_cons, List.not_mem_nil, or_false] at hn
    rcases hn with rfl | rfl | rfl | rfl | rfl | rfl
    · exact h.iface
    · exact ⟨by omega, by omega⟩
    · exact ⟨by omega, by omega⟩
    · exact h.weight
    · exact h.backup
    · exact ⟨by omega, by omega⟩
  · exact h.ls n hn
theorem numsT_len : ∀ {l : List Int}, (∀ n ∈ l, W64 n) → (numsT l).length ≤ 22 * l.length
  | [], _ => Nat.le_refl _
  | n :: l, h => by
    have ih := numsT_len (l := l) fun k hk => h k (List.mem_cons_of_mem _ hk)
    have h1 := h n List.mem_cons_self
    have := Lib.itoa_length_le n h1.1 h1.2
    rw [numsT_cons, List.length_append, List.length_cons, List.length_cons]
    omega
end Go.Proofs.YtplppbgkkfjknaaGreatDoor
namespace Go.Proofs.YtplppbgkkfjknaaGreatDoor
open Go.RowKit

set_option linter.unusedVariables false
set_option linter.unusedSimpArgs false
theorem itoa_any (n : Int) (w : World) (hn : W64 n) (henv : Env w) :
    Calls Tryz.prog 114 #[.int .i64 n] w fun e w' => e = .returned (.string (strB (Lib.itoa n))) ∧ Below w.heap.size w w' := by
  refine (Tryz.strconv_Itoa n hn.1 hn.2 w henv.1).mono ?_
  rintro e w1 ⟨rfl, k, os, rfl⟩
  exact ⟨rfl, below_grow w k os⟩
theorem itoa_len {n : Int} (h : W64 n) : (Lib.itoa n).length ≤ 21 := Lib.itoa_length_le n h.1 h.2
theorem numsT_take {l : List Int} {j : Nat} {x : Int} (h : l[j]? = some x) : numsT (l.take (j + 1)) = numsT (l.take j) ++ (Lib.itoa x ++ [32]) := by
  rw [List.take_add_one, h, numsT_app]
  show _ ++ numsT [x] = _
  rw [numsT_cons]
  rfl
/-- a loop that writes numbers -/
def NumI (w : World) (o : List UInt8) (l : List Int) (n : Nat) (sv iv : Value) (W : World) : Prop :=
  ∃ (j : Nat) (b : ByteArray), j ≤ n ∧ iv = .int .i64 j ∧ sv = .string b ∧ Hid (b.data.toList = o ++ numsT (l.take j)) ∧ Hid (Below w.heap.size w W)
def TxtI (w : World) (act : Int) (ps : List PV) (n : Nat) (sv iv : Value) (W : World) : Prop :=
  ∃ (k : Nat) (b : ByteArray), k ≤ n ∧ iv = .int .i64 k ∧ sv = .string b ∧ Hid (b.data.toList = textT act (ps.take k)) ∧ Hid (Below w.heap.size w W)
theorem pathT_len {p : PV} (h : WPath p) (hl : p.ls.length ≤ 1000) : (pathT p).length ≤ 23000 := by
  have := numsT_len h.key
  unfold pathT
  rw [List.length_cons]
  have h2 : (keyP p).length = 6 + p.ls.length := by
    unfold keyP
    rw [List.length_append]
    rfl
  omega
theorem paths_len : ∀ {ps : List PV}, (∀ p ∈ ps, WPath p ∧ p.ls.length ≤ 1000) → (ps.flatMap pathT).length ≤ 23000 * ps.length
  | [], _ => Nat.le_refl _
  | p :: t, h => by
    have ih := paths_len (ps := t) fun q hq => h q (List.mem_cons_of_mem _ hq)
    have h1 := pathT_len (h p List.mem_cons_self).1 (h p List.mem_cons_self).2
    rw [List.flatMap_cons, List.length_append, List.length_cons]
    omega
theorem text_len {act : Int} {ps : List PV} (ha : W64 act) (h : ∀ p ∈ ps, WPath p ∧ p.ls.length ≤ 1000) (hn : ps.length ≤ 1000) : (textT act ps).length ≤ 23000021 := by
  have h1 := itoa_len ha
  have h2 := paths_len h
  unfold textT
  rw [List.length_append]
  omega
theorem text_take {act : Int} {ps : List PV} {k : Nat} {p : PV} (h : ps[k]? = some p) : textT act (ps.take (k + 1)) = textT act (ps.take k) ++ pathT p := by
  unfold textT
  rw [List.take_add_one, h, List.flatMap_append, List.append_assoc]
  simp
set_option maxRecDepth 100000 in
set_option maxHeartbeats 4000000 in
theorem text_any (A : Option Addr) (n c B : Nat) (act : Int) (ps : List PV) (w : World) (hx : Paths w B A n c ps) (hB : B ≤ w.heap.size) (hn : n ≤ 1000) (hw : ∀ p ∈ ps, WPath p ∧ p.ls.length ≤ 1000) (ha : W64 act) (henv : Env w) :
    Calls Tryz.prog 90 #[.agg #[.int .i64 act, .slice A n c]] w fun e w' => e = .returned (.string (strB (textT act ps))) ∧ Below w.heap.size w w' := by
  obtain ⟨w1, hw1⟩ : ∃ w1, w.alloc (.cells #[.int .i64 act, .slice A n c] 47) = w1 := ⟨_, rfl⟩
  have HF1 : Hid (Blk w1 w.heap.size 47 [.int .i64 act, .slice A n c]) := by show Blk _ _ _ _; rw [← hw1]; exact Blk.new w _ _
  have HB1 : Hid (Below w.heap.size w w1) := by show Below _ _ _; rw [← hw1]; exact belowA _ _
  have HXW : Hid (∀ W, Below w.heap.size w W → Paths W B A n c ps) := fun W h => hx.below (h.mono hB)
  have HEW : Hid (∀ W, Below w.heap.size w W → Env W) := fun W h => henv.below h
  have HW := Lib.hid hw
  have HL : Hid (ps.length = n) := hx.1.2
  have HTL : Hid (∀ k, (textT act (ps.take k)).length ≤ 23000021) := fun k => text_len ha (fun p hp => hw p (List.mem_of_mem_take hp)) (by rw [List.length_take, hx.1.2]; omega)
  have HA := Lib.hid (itoa_any act w1 ha (henv.below HB1.out))
  obtain ⟨d, hd⟩ : ∃ d, strB (Lib.itoa act) = d := ⟨_, rfl⟩
  have HD : Hid (d.data.toList = Lib.itoa act) := by show _ = _; rw [← hd, strB_list]
  rw [hd] at HA
  have f0 := HF1.out.cell 0
  simp only [List.getElem?_cons_zero, List.getElem?_cons_succ] at f0
  have hlt1 := HF1.out.lt
  clear hx hw ha henv hd
  go_enter Tryz.func90, Tryz.ntmps90
  go_wp2_with fail
  refine HA.out.mono ?_
  rintro e w2 ⟨rfl, hb2⟩
  have HB2 := Lib.hid (below3 HB1.out hb2)
  have HF2 := Lib.hid (HF1.out.keep hb2)
  have f1 := HF2.out.cell 1
  simp only [List.getElem?_cons_zero, List.getElem?_cons_succ] at f1
  have hlt2 := HF2.out.lt
  have HI0 : Hid (TxtI w act ps n (.string d) (.int .i64 (0 : Nat)) w2) := ⟨0, d, Nat.zero_le _, rfl, rfl, by show _ = _; rw [HD.out]; simp [textT], HB2⟩
  clear HA hb2 f0 hw1
  go_wp2
  go_loopw [3, 16] (fun sv iv wr => TxtI w act ps n sv iv wr) (fun _ iv _ => n - (intOf iv).toNat)
  case atStart => exact HI0.out
  case round =>
    obtain ⟨k, b, hk, rfl, rfl, hb, hbw⟩ := hrel
    clear HI0 f1 HF1 HB1 HB2 HF2 hlt1 hlt2
    obtain ⟨wq, rfl⟩ : ∃ wq, wq = wr := ⟨_, rfl⟩
    have hbs : b.size ≤ 23000021 := by rw [size_list, hb.out]; exact HTL.out k
    by_cases hlt : k < n
    case neg =>
      obtain rfl : k = n := by omega
      have HF : Hid (b = strB (textT act ps)) := strB_of (by rw [hb.out, List.take_of_length_le (Nat.le_of_eq HL.out)])
      go_wp2
      go_ret
      exact ⟨by rw [← HF.out]; rfl, hbw.out⟩
    obtain ⟨bb, o, p, rfl, hbB, hpk, hpl, c0, c1, c2, c3, c4, c5⟩ := (HXW.out _ hbw.out).get hlt
    have hbq : bb < wq.heap.size := by have := hbw.out.size; omega
    obtain ⟨hwp, hll⟩ := HW.out p (List.mem_of_getElem? hpk)
    have HWP := Lib.hid hwp
    have hln := hpl.len
    have HNX : Hid (textT act (ps.take (k + 1)) = textT act (ps.take k) ++ 47 :: (numsT [p.iface, p.addr, p.router, p.weight, p.backup, (p.ls.length : Int)] ++ numsT p.ls)) := by
      show _ = _
      rw [text_take hpk]
      unfold pathT keyP
      rw [numsT_app]
    have ha := hwp.addr
    have hr := hwp.router
    unfold W32 at ha hr
    obtain ⟨xi, xa, xr, xw, xA, xn, xc, xl, xb⟩ := p
    dsimp only at c0 c1 c2 c3 c4 c5 hpl hll ha hr HNX hln
    obtain ⟨ha0, ha1⟩ := ha
    obtain ⟨hr0, hr1⟩ := hr
    have HN2 : Hid (textT act (ps.take (k + 1)) = (textT act (ps.take k) ++ [47]) ++ (numsT [xi, xa, xr, xw, xb, (xn : Int)] ++ numsT xl)) := by
      have h := HNX.out
      rw [hln] at h
      show _ = _
      rw [h, List.append_assoc]
      rfl
    have HKW : Hid (∀ n ∈ [xi, xa, xr, xw, xb, (xn : Int)], W64 n) := by
      have h := HWP.out.key
      unfold keyP at h
      dsimp only at h
      rw [hln] at h
      exact fun n hn => h n (List.mem_append_left _ hn)
    have HLW : Hid (∀ n ∈ xl, W64 n) := HWP.out.ls
    have HLN := Lib.hid hln
    obtain ⟨wa, hwa⟩ : ∃ wa, wq.alloc (.cells #[.int .i64 xi, .int .u32 xa, .int .u32 xr, .int .i64 xw, .slice xA xn xc, .int .i64 xb] 57) = wa := ⟨_, rfl⟩
    have hba : Below wq.heap.size wq wa := by rw [← hwa]; exact belowA _ _
    have HXA : Hid (Blk wa wq.heap.size 57 [.int .i64 xi, .int .u32 xa, .int .u32 xr, .int .i64 xw, .slice xA xn xc, .int .i64 xb]) := by show Blk _ _ _ _; rw [← hwa]; exact Blk.new wq _ _
    obtain ⟨wb, hwb⟩ : ∃ wb, wa.alloc (.cells #[.int .i64 xi, .int .i64 xa, .int .i64 xr, .int .i64 xw, .int .i64 xb, .int .i64 xn] 3) = wb := ⟨_, rfl⟩
    have hbb : Below wa.heap.size wa wb := by rw [← hwb]; exact belowA _ _
    have HSX : Hid (Ints wb wb.heap.size .i64 (some ⟨wa.heap.size, 0, none⟩) 6 6 [xi, xa, xr, xw, xb, (xn : Int)]) := by
      show Ints _ _ _ _ _ _ _
      rw [← hwb]
      exact Cells.of_own (World.ownsRow_lit (base := wa.heap.size) (size := 1) wa #[.int .i64 xi, .int .i64 xa, .int .i64 xr, .int .i64 xw, .int .i64 xb, .int .i64 xn] 6 (Nat.le_refl _) (by simp [maxLen]) rfl)
    have HXB := Lib.hid (HXA.out.keep hbb)
    have HBB := Lib.hid (below3 (below3 hbw.out hba) hbb)
    have HLL : Hid (∀ W, Below w.heap.size w W → Ints W B .i64 xA xn xc xl) := by
      intro W h
      exact (HXW.out _ h).2 _ (List.mem_of_getElem? hpk)
    have g0 := HXA.out.cell 0
    have g1 := HXA.out.cell 1
    have g2 := HXA.out.cell 2
    have g3 := HXA.out.cell 3
    have g4 := HXA.out.cell 4
    have g5 := HXA.out.cell 5
    simp only [List.getElem?_cons_zero, List.getElem?_cons_succ] at g0 g1 g2 g3 g4 g5
    have hlta := HXA.out.lt
    obtain ⟨sl, hsl⟩ : ∃ sl : ByteArray, ({ data := #[47] } : ByteArray) = sl := ⟨_, rfl⟩
    have hs1 : sl.size = 1 := by rw [← hsl]; rfl
    have HSL : Hid (sl.data.toList = [47]) := by show _ = _; rw [← hsl]
    have hsz : b.size + sl.size ≤ 9223372036854775807 := by omega
    have hsz1 : (b.size : Int) + (sl.size : Int) ≤ 9223372036854775807 := by omega
    clear hpl hpk hwp hba hbb
    go_wp2
    have hwb2 := Lib.hid hwb
    have hwa2 := Lib.hid hwa
    clear hwa hwb g0 g1 g2 g3 g4 g5
    obtain ⟨b1, hb1⟩ : ∃ b1, b ++ sl = b1 := ⟨_, rfl⟩
    have HB1S : Hid (b1.data.toList = textT act (ps.take k) ++ [47]) := by show _ = _; rw [← hb1, add_list, hb.out, HSL.out]
    try rw [hb1]
    have hb1s : b1.size ≤ 23000022 := by rw [← hb1, ByteArray.size_append]; omega
    clear hsz hsz1 hb1 hbs hsl hs1
    obtain ⟨sp, hsp⟩ : ∃ sp : ByteArray, ({ data := #[32] } : ByteArray) = sp := ⟨_, rfl⟩
    have hsp1 : sp.size = 1 := by rw [← hsp]; rfl
    have HSP : Hid (sp.data.toList = [32]) := by show _ = _; rw [← hsp]
    obtain ⟨O, hO⟩ : ∃ O, textT act (ps.take k) ++ [47] = O := ⟨_, rfl⟩
    rw [hO] at HN2 HB1S
    have HOL : Hid (O.length ≤ 23000022) := by show _ ≤ _; rw [← hO, List.length_append]; have := HTL.out k; simp; omega
    clear hO
    have HJ0 : Hid (NumI wb (O) [xi, xa, xr, xw, xb, (xn : Int)] 6 (.string b1) (.int .i64 (0 : Nat)) wb) := ⟨0, b1, Nat.zero_le _, rfl, rfl, by show _ = _; rw [HB1S.out]; simp [numsT], Below.refl _ _⟩
    go_loopw [3, 39] (fun sv iv wr => NumI wb (O) [xi, xa, xr, xw, xb, (xn : Int)] 6 sv iv wr) (fun _ iv _ => 6 - (intOf iv).toNat)
    case atStart => exact HJ0.out
    case round =>
      obtain ⟨j, b2, hj, rfl, rfl, hn2, hbw2⟩ := hrel
      clear HJ0
      have HB3 := Lib.hid (below3 HBB.out hbw2.out)
      have hb2s : b2.size ≤ 23000200 := by
        have h1 := numsT_len (l := [xi, xa, xr, xw, xb, (xn : Int)].take j) (fun n hn => HKW.out n (List.mem_of_mem_take hn))
        have h2 : ([xi, xa, xr, xw, xb, (xn : Int)].take j).length ≤ 6 := Nat.le_trans (List.length_take_le' _ _) (Nat.le_refl _)
        have h3 := HOL.out
        rw [size_list, hn2.out, List.length_append]
        omega
      by_cases hlt2 : j < 6
      case neg =>
        obtain rfl : j = 6 := by omega
        rw [show ((6 : Nat) : Int) = 6 from rfl]
        obtain ⟨w5, rfl⟩ : ∃ w5, w5 = wr := ⟨_, rfl⟩
        have HB5 := HB3
        have HX5 := Lib.hid (HXB.out.keep hbw2.out)
        have g4 := HX5.out.cell 4
        simp only [List.getElem?_cons_zero, List.getElem?_cons_succ] at g4
        have hl5 := HX5.out.lt
        have HN6 : Hid (b2.data.toList = O ++ numsT [xi, xa, xr, xw, xb, (xn : Int)]) := by show _ = _; rw [hn2.out]; rfl
        have HI5 : Hid (Ints w5 B .i64 xA xn xc xl) := HLL.out _ HB5.out
        have hB5 : B ≤ w5.heap.size := by have := HB5.out.size; omega
        have HOL2 : Hid ((O ++ numsT [xi, xa, xr, xw, xb, (xn : Int)]).length ≤ 23000200) := by
          show _ ≤ _
          rw [← HN6.out, ← size_list]
          omega
        obtain ⟨O2, hO2⟩ : ∃ O2, O ++ numsT [xi, xa, xr, xw, xb, (xn : Int)] = O2 := ⟨_, rfl⟩
        have HN7 : Hid (textT act (ps.take (k + 1)) = O2 ++ numsT xl) := by show _ = _; rw [HN2.out, ← hO2, List.append_assoc]
        rw [hO2] at HN6 HOL2
        obtain ⟨b5, rfl⟩ : ∃ b5, b5 = b2 := ⟨_, rfl⟩
        clear hn2 hbw2 HB3 hb2s hO2 HSX
        go_wp2
        have HJ0 : Hid (NumI w5 (O2) xl xn (.string b5) (.int .i64 (0 : Nat)) w5) := ⟨0, b5, Nat.zero_le _, rfl, rfl, by show _ = _; rw [HN6.out]; simp [numsT], Below.refl _ _⟩
        go_loopw [3, 52] (fun sv iv wr => NumI w5 (O2) xl xn sv iv wr) (fun _ iv _ => xn - (intOf iv).toNat)
        case atStart => exact HJ0.out
        case round =>
          obtain ⟨j, b2, hj, rfl, rfl, hn2, hbw2⟩ := hrel
          clear HJ0
          have HB3 := Lib.hid (below3 HB5.out hbw2.out)
          have hb2s : b2.size ≤ 23100000 := by
            have h1 := numsT_len (l := xl.take j) (fun n hn => HLW.out n (List.mem_of_mem_take hn))
            have h2 : (xl.take j).length ≤ 1000 := Nat.le_trans (List.length_take_le' _ _) hll
            have h3 := HOL2.out
            rw [size_list, hn2.out, List.length_append]
            omega
          by_cases hlt2 : j < xn
          case neg =>
            obtain rfl : j = xn := by omega
            have HFN : Hid (b2.data.toList = textT act (ps.take (k + 1))) := by show _ = _; rw [hn2.out, HN7.out, List.take_of_length_le (Nat.le_of_eq HLN.out)]
            go_wp2
            go_roundw
            case rel => exact ⟨k + 1, b2, by omega, by go_num, rfl, HFN, HB3⟩
            case measure => simp [intOf]; omega
          obtain ⟨b3, o3, x, rfl, hb3B, q0, hxx⟩ := (HI5.out.below (hbw2.out.mono hB5)).cell hlt2
          have hb3w : b3 < wr.heap.size := by have := HB3.out.size; omega
          have hwx : w5.heap.size ≤ wr.heap.size := hbw2.out.size
          have HXJ : Hid (xl[j]? = some x) := by
            have h1 := hxx.out
            have h2 : j < xl.length := by rw [HLN.out]; exact hlt2
            show _ = _
            rw [List.getD_eq_getElem?_getD, List.getElem?_eq_getElem h2] at h1
            rw [List.getElem?_eq_getElem h2]
            exact congrArg some h1
          have hx64 := HLW.out x (List.mem_of_getElem? HXJ.out)
          have hil := itoa_len hx64
          have HC := Lib.hid (itoa_any x wr hx64 (HEW.out _ HB3.out))
          obtain ⟨dx, hdx⟩ : ∃ dx, strB (Lib.itoa x) = dx := ⟨_, rfl⟩
          have HDX : Hid (dx.data.toList = Lib.itoa x) := by show _ = _; rw [← hdx, strB_list]
          have hdz : dx.size ≤ 21 := by rw [← hdx, strB_size]; exact hil
          rw [hdx] at HC
          have hz1 : dx.size + sp.size ≤ 9223372036854775807 := by omega
          have hz2 : (dx.size : Int) + (sp.size : Int) ≤ 9223372036854775807 := by omega
          have hz3 : b2.size + (dx.size + sp.size) ≤ 9223372036854775807 := by omega
          have hz4 : (b2.size : Int) + ((dx.size : Int) + (sp.size : Int)) ≤ 9223372036854775807 := by omega
          have HN3 : Hid ((b2 ++ (dx ++ sp)).data.toList = (O2) ++ numsT (xl.take (j + 1))) := by
            show _ = _
            rw [numsT_take HXJ.out, add_list, add_list, hn2.out, HDX.out, HSP.out, List.append_assoc]
          clear hx64 hil hdx hdz hxx
          go_wp2_with fail
          refine HC.out.mono ?_
          rintro e w9 ⟨rfl, hb9⟩
          have HB9 := Lib.hid (below3 hbw2.out hb9)
          clear hb9 HC
          go_wp2
          go_roundw
          case rel => exact ⟨j + 1, b2 ++ (dx ++ sp), by omega, by go_num, rfl, HN3, HB9⟩
          case measure => simp [intOf]; omega
      obtain ⟨b3, o3, x, hA3, hb3B, q0, hxx⟩ := (HSX.out.below hbw2.out).cell hlt2
      simp only [Option.some.injEq, Addr.mk.injEq] at hA3
      obtain ⟨rfl, rfl, _⟩ := hA3
      rw [Nat.zero_add] at q0
      have hb3w : wa.heap.size < wr.heap.size := by have := hbw2.out.size; omega
      have HXJ : Hid ([xi, xa, xr, xw, xb, (xn : Int)][j]? = some x) := by
        have h1 := hxx.out
        have h2 : j < [xi, xa, xr, xw, xb, (xn : Int)].length := by show j < 6; omega
        show _ = _
        rw [List.getD_eq_getElem?_getD, List.getElem?_eq_getElem h2] at h1
        rw [List.getElem?_eq_getElem h2]
        exact congrArg some h1
      have hx64 := HKW.out x (List.mem_of_getElem? HXJ.out)
      have hil := itoa_len hx64
      have HC := Lib.hid (itoa_any x wr hx64 (HEW.out _ HB3.out))
      obtain ⟨dx, hdx⟩ : ∃ dx, strB (Lib.itoa x) = dx := ⟨_, rfl⟩
      have HDX : Hid (dx.data.toList = Lib.itoa x) := by show _ = _; rw [← hdx, strB_list]
      have hdz : dx.size ≤ 21 := by rw [← hdx, strB_size]; exact hil
      rw [hdx] at HC
      have hz1 : dx.size + sp.size ≤ 9223372036854775807 := by omega
      have hz2 : (dx.size : Int) + (sp.size : Int) ≤ 9223372036854775807 := by omega
      have hz3 : b2.size + (dx.size + sp.size) ≤ 9223372036854775807 := by omega
      have hz4 : (b2.size : Int) + ((dx.size : Int) + (sp.size : Int)) ≤ 9223372036854775807 := by omega
      have HN3 : Hid ((b2 ++ (dx ++ sp)).data.toList = (O) ++ numsT ([xi, xa, xr, xw, xb, (xn : Int)].take (j + 1))) := by
        show _ = _
        rw [numsT_take HXJ.out, add_list, add_list, hn2.out, HDX.out, HSP.out, List.append_assoc]
      clear hx64 hil hdx hdz hxx
      go_wp2_with fail
      refine HC.out.mono ?_
      rintro e w9 ⟨rfl, hb9⟩
      have HB9 := Lib.hid (below3 hbw2.out hb9)
      clear hb9 HC
      go_wp2
      go_roundw
      case rel => exact ⟨j + 1, b2 ++ (dx ++ sp), by omega, by go_num, rfl, HN3, HB9⟩
      case measure => simp [intOf]; omega
end Go.Proofs.YtplppbgkkfjknaaGreatDoor
namespace Go.Proofs.YtplppbgkkfjknaaGreatDoor
open Go.RowKit

set_option linter.unusedVariables false
set_option linter.unusedSimpArgs false
structure Keep (P : Nat → Prop) (w w' : World) : Prop where
  os : w'.os = w.os
  tape : w'.tape = w.tape
  output : w'.output = w.output
  size : w.heap.size ≤ w'.heap.size
  block : ∀ k, k < w.heap.size → P k → w'.heap[k]? = w.heap[k]?
section
variable {P Q : Nat → Prop} {w w' w2 : World}
theorem Keep.refl (P : Nat → Prop) (w : World) : Keep P w w := ⟨rfl, rfl, rfl, Nat.le_refl _, fun _ _ _ => rfl⟩
theorem Keep.trans (h : Keep P w w') (k : Keep P w' w2) : Keep P w w2 :=
  ⟨k.os.trans h.os, k.tape.trans h.tape, k.output.trans h.output, Nat.le_trans h.size k.size, fun i hi hn => (k.block i (Nat.lt_of_lt_of_le hi h.size) hn).trans (h.block i hi hn)⟩
theorem Keep.mono (h : Keep P w w') (hq : ∀ k, k < w.heap.size → Q k → P k) : Keep Q w w' := ⟨h.os, h.tape, h.output, h.size, fun k hk hp => h.block k hk (hq k hk hp)⟩
/-- two steps; the second keeps more blocks, the new ones aside -/
theorem Keep.andThen (h : Keep P w w') (k : Keep Q w' w2) (hq : ∀ i, i < w.heap.size → P i → Q i) : Keep P w w2 :=
  ⟨k.os.trans h.os, k.tape.trans h.tape, k.output.trans h.output, Nat.le_trans h.size k.size, fun i hi hn => (k.block i (Nat.lt_of_lt_of_le hi h.size) (hq i hi hn)).trans (h.block i hi hn)⟩
theorem Keep.of (h : Below w.heap.size w w') : Keep P w w' := ⟨h.os, h.tape, h.output, h.size, fun k hk _ => h.block k hk⟩
theorem Keep.save {g : Nat} (h : Save g w w') (hg : ∀ k, P k → k ≠ g) : Keep P w w' := ⟨h.os, h.tape, h.output, h.size, fun k hk hp => h.block k hk (hg k hp)⟩
theorem Keep.grown {row : Option Nat} (h : w.grownBy w' row) (hg : ∀ k, P k → some k ≠ row) : Keep P w w' := ⟨h.os, h.tape, h.output, h.size, fun k hk hp => h.block k hk (hg k hp)⟩
theorem Keep.below {B : Nat} (h : Keep P w w') (hB : ∀ k, k < B → P k) (hs : B ≤ w.heap.size) : Below B w w' := ⟨h.os, h.tape, h.output, h.size, fun k hk => h.block k (by omega) (hB k hk)⟩
theorem Blk.kp {b : Nat} {T : TypeId} {cs : List Value} (h : Blk w b T cs) (hk : Keep P w w') (hp : P b) : Blk w' b T cs := by
  unfold Blk at h ⊢
  rw [hk.block b (heap_lt h) hp]
  exact h
theorem row_kp {base size n : Nat} {e : TypeId} {v : Value} {xs : List Value} (h : w.ownsRow base e size v n xs) (hb : Keep P w w') (hg : ∀ k, v.ownBlock = some k → P k) : w'.ownsRow base e size v n xs := by
  refine ⟨h.1, ?_⟩
  rcases h.2 with h2 | ⟨q, cap, cur, hv, hq, hh, r⟩
  · exact .inl h2
  · refine .inr ⟨q, cap, cur, hv, hq, ?_, r⟩
    rw [hb.block q (heap_lt hh) (hg q (by rw [hv]; rfl))]
    exact hh
theorem cells_kp {B size n c : Nat} {A : Option Addr} {vs : List Value} (h : Cells w B size A n c vs) (hb : Keep P w w') (hB : B ≤ w.heap.size) (hf : 0 < n → ∀ ad, A = some ad → P ad.block) : Cells w' B size A n c vs := by
  refine ⟨h.1, h.2.1, h.2.2.1, fun hn => ?_⟩
  obtain ⟨b, o, e, hbb, hc⟩ := h.2.2.2 hn
  have hne : P b := hf (by omega) _ e
  refine ⟨b, o, e, hbb, fun j hj => ?_⟩
  rw [← hc j hj]
  have := hb.block b (Nat.lt_of_lt_of_le hbb hB) hne
  simp only [World.cell?, this]
theorem ints_kp {B n c : Nat} {k : IntKind} {A : Option Addr} {xs : List Int} (h : Ints w B k A n c xs) (hb : Keep P w w') (hB : B ≤ w.heap.size) (hf : 0 < n → ∀ ad, A = some ad → P ad.block) : Ints w' B k A n c xs := cells_kp h hb hB hf
/-- paths whose blocks are all of P -/
def In (P : Nat → Prop) (A : Option Addr) (n : Nat) (ps : List PV) : Prop := (0 < n → ∀ ad, A = some ad → P ad.block) ∧ ∀ p ∈ ps, 0 < p.ln → ∀ ad, p.A = some ad → P ad.block
theorem In.mono {A : Option Addr} {n : Nat} {ps : List PV} (h : In P A n ps) (hq : ∀ k, P k → Q k) : In Q A n ps := ⟨fun hn ad e => hq _ (h.1 hn ad e), fun p hp hn ad e => hq _ (h.2 p hp hn ad e)⟩
theorem In.and {A : Option Addr} {n : Nat} {ps : List PV} (h : In P A n ps) (k : In Q A n ps) : In (fun i => P i ∧ Q i) A n ps := ⟨fun hn ad e => ⟨h.1 hn ad e, k.1 hn ad e⟩, fun p hp hn ad e => ⟨h.2 p hp hn ad e, k.2 p hp hn ad e⟩⟩
theorem paths_in {B n c : Nat} {A : Option Addr} {ps : List PV} (h : Paths w B A n c ps) : In (· < B) A n ps := by
  refine ⟨fun hn ad e => ?_, fun p hp hn ad e => ?_⟩
  · obtain ⟨b, o, e2, hb, _⟩ := h.1.1.2.2.2 (by omega)
    rw [e] at e2
    injection e2 with e2
    subst e2
    exact hb
  · obtain ⟨b, o, e2, hb, _⟩ := (h.2 p hp).2.2.2 (by omega)
    rw [e] at e2
    injection e2 with e2
    subst e2
    exact hb
theorem paths_kp {B n c : Nat} {A : Option Addr} {ps : List PV} (h : Paths w B A n c ps) (hb : Keep P w w') (hB : B ≤ w.heap.size) (hf : In P A n ps) : Paths w' B A n c ps :=
  ⟨⟨cells_kp h.1.1 hb hB hf.1, h.1.2⟩, fun p hp => ints_kp (h.2 p hp) hb hB (hf.2 p hp)⟩
end
/-- append of one record to a row of the call's own -/
theorem row_push {S T : TypeId} {size bytes : Nat} {z : Value} (hu : Tryz.prog.underlying S = some (.slice T)) (hinfo : (Tryz.prog.info? T).map (fun i => (i.zero, i.size, i.bytes)) = some (some z, size, bytes)) (hz : z.cells.size = size) (hs0 : 0 < size) (hby : bytes ≤ 1000)
    {w : World} {base n N : Nat} {v : Value} {us : List Value} (h : w.ownsRow base T size v n us) (xs : List Value) (hl : xs.length = size) (h1 : ∀ u ∈ xs, u.oneCell' = true) (hN : N = w.heap.size) (hbase : base ≤ w.heap.size) (hn : n ≤ 1000000) :
    ∃ A' c' w', (Builtin.append_ #[S, S] S #[v, .slice (some ⟨N, 0, none⟩) 1 1]).run Tryz.prog (w.alloc (.cells xs.toArray T)) = .ok (.slice A' (n + 1) c') w' ∧
      w'.ownsRow base T size (.slice A' (n + 1) c') (n + 1) (us ++ xs) ∧ Below base w w' ∧ Keep (fun k => v.ownBlock ≠ some k) w w' ∧ ∀ k, (Value.slice A' (n + 1) c').ownBlock = some k → v.ownBlock = some k ∨ w.heap.size ≤ k := by
  subst hN
  have hbel := belowA w (.cells xs.toArray T)
  obtain ⟨W, hW⟩ : ∃ W, w.alloc (.cells xs.toArray T) = W := ⟨_, rfl⟩
  have hWs : W.heap.size = w.heap.size + 1 := by rw [← hW]; simp
  have hlit : Cells W W.heap.size size (some ⟨w.heap.size, 0, none⟩) 1 1 xs := by
    rw [← hW]
    have := Cells.of_own (World.ownsRow_lit (base := w.heap.size) (size := size) (e := T) w xs.toArray 1 (Nat.le_refl _) (by simp [maxLen]) (by simpa using hl))
    simpa using this
  rw [hW] at hbel ⊢
  obtain ⟨v', w', k1, k2, k3, k4⟩ := Cells.append (P := Tryz.prog) (t := S) (ty := S) hu hinfo hz hs0 (row_below h hbel) hlit h1 (by simp only [maxLen]; omega) (by have : (n + 1) * bytes ≤ (n + 1) * 1000 := Nat.mul_le_mul_left _ hby; omega) (by omega)
  obtain ⟨A', c', rfl⟩ := own_form k2
  refine ⟨A', c', w', k1, k2, (hbel.mono hbase).grown k3 (by omega) (fun k hk => (World.ownsRow.lt h k hk).1), ⟨k3.os.trans hbel.os, k3.tape.trans hbel.tape, k3.output.trans hbel.output, Nat.le_trans hbel.size k3.size, fun k hk hne => (k3.block k (by omega) (fun e => hne e.symm)).trans (hbel.block k hk)⟩, fun k e => ?_⟩
  rcases k4 with k4 | k4
  · exact .inl (by rw [← k4]; exact e)
  · rw [k4] at e
    right
    have := Option.some.inj e
    omega
end Go.Proofs.YtplppbgkkfjknaaGreatDoor
