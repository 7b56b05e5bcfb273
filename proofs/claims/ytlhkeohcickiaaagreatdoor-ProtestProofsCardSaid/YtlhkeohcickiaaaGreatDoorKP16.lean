/- Part 16 of 36 of the proof of ProtestProofs: lemmas, without conditions. -/
import Derived.Shelf.Strings.SlTrimAscii
import Derived.Test.YtlhkeohcickiaaaGreatDoorProg
import Derived.Test.YtlhkeohcickiaaaGreatDoorKP14
set_option linter.all false
namespace Go.Proofs.YtlhkeohcickiaaaGreatDoor.L
open Go.Proofs
section
open Go.Shelf
def Tryz.lays160_ren : Go.Shelf.Ren := ⟨fun | 160 => 70 | 232 => 87 | 231 => 86 | 227 => 88 | 234 => 90 | 233 => 89 | 236 => 92 | 235 => 91 | 228 => 102 | 271 => 105 | 151 => 104 | 197 => 103 | 120 => 113 | 152 => 112 | 260 => 111 | 137 => 126 | 119 => 127 | 224 => 128 | 225 => 129 | 217 => 136 | 266 => 138 | n => n, fun | 9 => 9 | 4 => 4 | 3 => 3 | 5 => 5 | 117 => 123 | 116 => 122 | 0 => 0 | 124 => 126 | 21 => 21 | 105 => 133 | 46 => 139 | 119 => 154 | 139 => 157 | 138 => 156 | n => n, fun | 3 => 1 | 4 => 2 | n => n⟩
theorem Tryz.lays160 : Go.Proofs.Lays.n160 Tryz.prog Tryz.lays160_ren := {
 mixed := by kernel_rfl
 f119 := Tryz.func127.trans (congrArg some (by kernel_rfl))
 f120 := Tryz.func113.trans (congrArg some (by kernel_rfl))
 f137 := Tryz.func126.trans (congrArg some (by kernel_rfl))
 f151 := Tryz.func104.trans (congrArg some (by kernel_rfl))
 f152 := Tryz.func112.trans (congrArg some (by kernel_rfl))
 f160 := Tryz.func70.trans (congrArg some (by kernel_rfl))
 f197 := Tryz.func103.trans (congrArg some (by kernel_rfl))
 f217 := Tryz.func136.trans (congrArg some (by kernel_rfl))
 f224 := Tryz.func128.trans (congrArg some (by kernel_rfl))
 f225 := Tryz.func129.trans (congrArg some (by kernel_rfl))
 f227 := Tryz.func88.trans (congrArg some (by kernel_rfl))
 f228 := Tryz.func102.trans (congrArg some (by kernel_rfl))
 f231 := Tryz.func86.trans (congrArg some (by kernel_rfl))
 f232 := Tryz.func87.trans (congrArg some (by kernel_rfl))
 f233 := Tryz.func89.trans (congrArg some (by kernel_rfl))
 f234 := Tryz.func90.trans (congrArg some (by kernel_rfl))
 f235 := Tryz.func91.trans (congrArg some (by kernel_rfl))
 f236 := Tryz.func92.trans (congrArg some (by kernel_rfl))
 f260 := Tryz.func111.trans (congrArg some (by kernel_rfl))
 f266 := Tryz.func138.trans (congrArg some (by kernel_rfl))
 f271 := Tryz.func105.trans (congrArg some (by kernel_rfl))
 t0 := Tryz.underlying0
 a0 := Tryz.isAgg0
 z0 := Tryz.sizeOf0
 v0 := Tryz.zeroValue0
 t3 := Tryz.underlying3
 a3 := Tryz.isAgg3
 z3 := Tryz.sizeOf3
 v3 := Tryz.zeroValue3
 t4 := Tryz.underlying4
 a4 := Tryz.isAgg4
 z4 := Tryz.sizeOf4
 v4 := Tryz.zeroValue4
 t5 := Tryz.underlying5
 a5 := Tryz.isAgg5
 z5 := Tryz.sizeOf5
 v5 := Tryz.zeroValue5
 t9 := Tryz.underlying9
 a9 := Tryz.isAgg9
 z9 := Tryz.sizeOf9
 v9 := Tryz.zeroValue9
 t21 := Tryz.underlying21
 a21 := Tryz.isAgg21
 z21 := Tryz.sizeOf21
 v21 := Tryz.zeroValue21
 t46 := Tryz.underlying139
 a46 := Tryz.isAgg139
 z46 := Tryz.sizeOf139
 v46 := Tryz.zeroValue139
 t105 := Tryz.underlying133
 a105 := Tryz.isAgg133
 z105 := Tryz.sizeOf133
 v105 := Tryz.zeroValue133
 t116 := Tryz.underlying122
 a116 := Tryz.isAgg122
 z116 := Tryz.sizeOf122
 t117 := Tryz.underlying123
 a117 := Tryz.isAgg123
 z117 := Tryz.sizeOf123
 v117 := Tryz.zeroValue123
 t119 := Tryz.underlying154
 a119 := Tryz.isAgg154
 z119 := Tryz.sizeOf154
 t124 := Tryz.underlying126
 a124 := Tryz.isAgg126
 z124 := Tryz.sizeOf126
 v124 := Tryz.zeroValue126
 t138 := Tryz.underlying156
 a138 := Tryz.isAgg156
 z138 := Tryz.sizeOf156
 v138 := Tryz.zeroValue156
 t139 := Tryz.underlying157
 a139 := Tryz.isAgg157
 z139 := Tryz.sizeOf157
 v139 := Tryz.zeroValue157
 g3 := by kernel_rfl
 g4 := by kernel_rfl }
end
end Go.Proofs.YtlhkeohcickiaaaGreatDoor.L
namespace Go.Proofs.YtlhkeohcickiaaaGreatDoor.E
open Go.RowKit
section
def strings_Trim.f (a0 a1 : ByteArray) : Option ByteArray :=
 if a0.size ≤ 9223372036854775807 ∧ a1.size < 4294967281 ∧ a1.data.toList.all (fun b => decide (b.toNat < 128)) = true then some ⟨(Lib.trimS a0.data.toList a1.data.toList).toArray⟩ else none
theorem strings_Trim.calls (a0 a1 : ByteArray) (r : ByteArray) (w : World) (h : strings_Trim.f a0 a1 = some r) :
  Calls Tryz.prog 70 #[.string a0, .string a1] w fun e w' => e = .returned (.string r) ∧ Below w.heap.size w w' := by
 unfold strings_Trim.f at h
 split at h
 ·rename_i hc
  injection h with h
  subst h
  exact Any.strings_Trim_laid L.Tryz.lays160 (by kernel_rfl) a0 a1 w hc.1 hc.2.1 (ascii_of_all hc.2.2)
 ·cases h
end
end Go.Proofs.YtlhkeohcickiaaaGreatDoor.E

