/- Contracts of slices.Sorted over maps.Keys at this translation, as the kit lays them in plain words: each says its own conditions. -/

import Derived.Shelf.SlIter.Nil
import Derived.Shelf.SortM.Plain
import Derived.Shelf.SortM.SortNone
import Derived.Ground.GgzProg
import Derived.Ground.SlgmProg
import Derived.Test.YtffddmgnjecmdaaDoorProg
namespace Go.Proofs
open Go.Shelf
def Tryd.keys93_ren : Go.Shelf.Ren := ⟨fun | 7 => 93 | 10 => 139 | n => n, fun | 23 => 128 | 26 => 9 | 3 => 3 | 28 => 132 | 0 => 0 | 27 => 131 | 33 => 37 | 4 => 4 | n => n, fun | n => n⟩
theorem Tryd.keys93 : Go.Proofs.SlLaysZ.n7 Tryd.prog Tryd.keys93_ren := {
  mixed := by kernel_rfl
  f7 := ⟨Tryd.f93.name, by decide, Tryd.func93.trans (congrArg some (by kernel_rfl))⟩
  f10 := ⟨Tryd.f139.name, by decide, Tryd.func139.trans (congrArg some (by kernel_rfl))⟩
  t0 := Tryd.underlying0
  a0 := Tryd.isAgg0
  z0 := Tryd.sizeOf0
  v0 := Tryd.zeroValue0
  t4 := Tryd.underlying4
  a4 := Tryd.isAgg4
  z4 := Tryd.sizeOf4
  v4 := Tryd.zeroValue4
  t23 := Tryd.underlying128
  a23 := Tryd.isAgg128
  z23 := Tryd.sizeOf128
  v23 := Tryd.zeroValue128
  t26 := Tryd.underlying9
  a26 := Tryd.isAgg9
  z26 := Tryd.sizeOf9
  v26 := Tryd.zeroValue9
  t27 := Tryd.underlying131
  a27 := Tryd.isAgg131
  z27 := Tryd.sizeOf131
  v27 := Tryd.zeroValue131
  t28 := Tryd.underlying132
  a28 := Tryd.isAgg132
  z28 := Tryd.sizeOf132
  v28 := Tryd.zeroValue132
  t33 := Tryd.underlying37
  a33 := Tryd.isAgg37
  z33 := Tryd.sizeOf37
  v33 := Tryd.zeroValue37 }
def Tryd.sorted92_ren : Go.Shelf.Ren := ⟨fun | 6 => 92 | 8 => 138 | 9 => 134 | 11 => 175 | 13 => 174 | 12 => 173 | 23 => 200 | 24 => 201 | 14 => 191 | 15 => 192 | 16 => 193 | 17 => 194 | 18 => 195 | 19 => 196 | 20 => 197 | 21 => 198 | 22 => 199 | 25 => 207 | 26 => 208 | 27 => 209 | 28 => 210 | 29 => 211 | 30 => 212 | 31 => 214 | n => n, fun | 26 => 9 | 28 => 132 | 24 => 117 | 0 => 0 | 3 => 3 | 37 => 201 | 48 => 215 | 50 => 217 | 4 => 4 | 40 => 209 | 39 => 208 | 45 => 171 | 5 => 5 | 9 => 9 | 51 => 222 | 55 => 226 | 57 => 236 | 58 => 105 | 33 => 37 | n => n, fun | n => n⟩
theorem Tryd.sorted92 : Go.Proofs.SlLaysZ.n6 Tryd.prog Tryd.sorted92_ren := {
  mixed := by kernel_rfl
  f6 := ⟨Tryd.f92.name, by decide, Tryd.func92.trans (congrArg some (by kernel_rfl))⟩
  f8 := ⟨Tryd.f138.name, by decide, Tryd.func138.trans (congrArg some (by kernel_rfl))⟩
  f11 := ⟨Tryd.f175.name, by decide, Tryd.func175.trans (congrArg some (by kernel_rfl))⟩
  t0 := Tryd.underlying0
  a0 := Tryd.isAgg0
  z0 := Tryd.sizeOf0
  v0 := Tryd.zeroValue0
  t24 := Tryd.underlying117
  a24 := Tryd.isAgg117
  z24 := Tryd.sizeOf117
  v24 := Tryd.zeroValue117
  t26 := Tryd.underlying9
  a26 := Tryd.isAgg9
  z26 := Tryd.sizeOf9
  v26 := Tryd.zeroValue9
  t28 := Tryd.underlying132
  a28 := Tryd.isAgg132
  z28 := Tryd.sizeOf132
  v28 := Tryd.zeroValue132
  i26 := by kernel_rfl }
def Tryd.sort134_ren : Go.Shelf.Ren := ⟨fun | 6 => 134 | 8 => 174 | 9 => 173 | 19 => 200 | 20 => 201 | 21 => 191 | 22 => 192 | 23 => 193 | 24 => 194 | 25 => 195 | 26 => 196 | 27 => 197 | 28 => 198 | 29 => 199 | 36 => 207 | 31 => 208 | 32 => 209 | 37 => 210 | 38 => 211 | 39 => 212 | 41 => 214 | n => n, fun | 27 => 117 | 29 => 9 | 3 => 3 | 32 => 201 | 26 => 117 | 0 => 0 | 44 => 215 | 46 => 217 | 4 => 4 | 36 => 209 | 35 => 208 | 41 => 171 | 5 => 5 | 9 => 9 | 53 => 222 | 57 => 226 | 63 => 236 | 64 => 105 | n => n, fun | n => n⟩
theorem Tryd.sort134 : Go.Proofs.SlLaysM.n6 Tryd.prog Tryd.sort134_ren := {
  mixed := by kernel_rfl
  f6 := ⟨Tryd.f134.name, by decide, Tryd.func134.trans (congrArg some (by kernel_rfl))⟩
  f8 := Tryd.func174.trans (congrArg some (by kernel_rfl))
  f9 := ⟨Tryd.f173.name, by decide, Tryd.func173.trans (congrArg some (by kernel_rfl))⟩
  f19 := Tryd.func200.trans (congrArg some (by kernel_rfl))
  f20 := Tryd.func201.trans (congrArg some (by kernel_rfl))
  f21 := ⟨Tryd.f191.name, by decide, Tryd.func191.trans (congrArg some (by kernel_rfl))⟩
  f22 := ⟨Tryd.f192.name, by decide, Tryd.func192.trans (congrArg some (by kernel_rfl))⟩
  f23 := ⟨Tryd.f193.name, by decide, Tryd.func193.trans (congrArg some (by kernel_rfl))⟩
  f24 := ⟨Tryd.f194.name, by decide, Tryd.func194.trans (congrArg some (by kernel_rfl))⟩
  f25 := ⟨Tryd.f195.name, by decide, Tryd.func195.trans (congrArg some (by kernel_rfl))⟩
  f26 := ⟨Tryd.f196.name, by decide, Tryd.func196.trans (congrArg some (by kernel_rfl))⟩
  f27 := ⟨Tryd.f197.name, by decide, Tryd.func197.trans (congrArg some (by kernel_rfl))⟩
  f28 := ⟨Tryd.f198.name, by decide, Tryd.func198.trans (congrArg some (by kernel_rfl))⟩
  f29 := ⟨Tryd.f199.name, by decide, Tryd.func199.trans (congrArg some (by kernel_rfl))⟩
  f31 := Tryd.func208.trans (congrArg some (by kernel_rfl))
  f32 := Tryd.func209.trans (congrArg some (by kernel_rfl))
  f36 := ⟨Tryd.f207.name, by decide, Tryd.func207.trans (congrArg some (by kernel_rfl))⟩
  f37 := ⟨Tryd.f210.name, by decide, Tryd.func210.trans (congrArg some (by kernel_rfl))⟩
  f38 := ⟨Tryd.f211.name, by decide, Tryd.func211.trans (congrArg some (by kernel_rfl))⟩
  f39 := ⟨Tryd.f212.name, by decide, Tryd.func212.trans (congrArg some (by kernel_rfl))⟩
  f41 := ⟨Tryd.f214.name, by decide, Tryd.func214.trans (congrArg some (by kernel_rfl))⟩
  t0 := Tryd.underlying0
  a0 := Tryd.isAgg0
  z0 := Tryd.sizeOf0
  v0 := Tryd.zeroValue0
  t3 := Tryd.underlying3
  a3 := Tryd.isAgg3
  z3 := Tryd.sizeOf3
  v3 := Tryd.zeroValue3
  t4 := Tryd.underlying4
  a4 := Tryd.isAgg4
  z4 := Tryd.sizeOf4
  v4 := Tryd.zeroValue4
  t5 := Tryd.underlying5
  a5 := Tryd.isAgg5
  z5 := Tryd.sizeOf5
  v5 := Tryd.zeroValue5
  t9 := Tryd.underlying9
  a9 := Tryd.isAgg9
  z9 := Tryd.sizeOf9
  v9 := Tryd.zeroValue9
  t26 := Tryd.underlying117
  a26 := Tryd.isAgg117
  z26 := Tryd.sizeOf117
  v26 := Tryd.zeroValue117
  t27 := Tryd.underlying117
  a27 := Tryd.isAgg117
  z27 := Tryd.sizeOf117
  v27 := Tryd.zeroValue117
  t29 := Tryd.underlying9
  a29 := Tryd.isAgg9
  z29 := Tryd.sizeOf9
  v29 := Tryd.zeroValue9
  t32 := Tryd.underlying201
  a32 := Tryd.isAgg201
  z32 := Tryd.sizeOf201
  v32 := Tryd.zeroValue201
  t35 := Tryd.underlying208
  a35 := Tryd.isAgg208
  z35 := Tryd.sizeOf208
  v35 := Tryd.zeroValue208
  t36 := Tryd.underlying209
  a36 := Tryd.isAgg209
  z36 := Tryd.sizeOf209
  v36 := Tryd.zeroValue209
  t41 := Tryd.underlying171
  a41 := Tryd.isAgg171
  z41 := Tryd.sizeOf171
  v41 := Tryd.zeroValue171
  t44 := Tryd.underlying215
  a44 := Tryd.isAgg215
  z44 := Tryd.sizeOf215
  v44 := Tryd.zeroValue215
  t46 := Tryd.underlying217
  a46 := Tryd.isAgg217
  z46 := Tryd.sizeOf217
  v46 := Tryd.zeroValue217
  t53 := Tryd.underlying222
  a53 := Tryd.isAgg222
  z53 := Tryd.sizeOf222
  v53 := Tryd.zeroValue222
  t57 := Tryd.underlying226
  a57 := Tryd.isAgg226
  z57 := Tryd.sizeOf226
  v57 := Tryd.zeroValue226
  t63 := Tryd.underlying236
  a63 := Tryd.isAgg236
  z63 := Tryd.sizeOf236
  v63 := Tryd.zeroValue236
  t64 := Tryd.underlying105
  a64 := Tryd.isAgg105
  z64 := Tryd.sizeOf105
  v64 := Tryd.zeroValue105 }
open Go.RowKit Go.Maps Go.Sort
theorem Tryd.sorts92 (m : Nat) : AnyZ.SortsIn Tryd.prog Tryd.sorted92_ren Fence.wide m :=
  ⟨fun blk off cap ss W hH hblk hsz => callsIn_wide.2 (AnyM.slices_Sort_string Tryd.sort134 blk off cap ss W hH hblk hsz),
   fun p cap W => callsIn_wide.2 (AnyM.slices_Sort_string_none Tryd.sort134 p cap W)⟩

theorem Tryd.maps_Keys_93 (mb : Option Nat) (W : World) : CallsIn Fence.wide 5 Tryd.prog 93 #[.map mb] W fun e w' => e = .returned (.func (.func 139) #[] #[.pointer (some ⟨W.heap.size, 0, none⟩)]) ∧ w' = W.alloc (.cells #[.map mb] 128) :=
  AnyZ.keys_in Tryd.keys93 Fence.wide 5 trivial rfl mb W

theorem Tryd.slices_Sorted_keys_92_93 {H : Type} (b nn : Nat) (D0 : DataW H) (R : Value → Option (DataW H × List MemPlace)) (w : World) (hown : w.ownsMap Tryd.prog 9 R b nn D0) (hmax : Maps.size D0 ≤ maxLen) (hbytes : Maps.size D0 * 16 ≤ 140737488355328) :
    CallsIn Fence.wide 5 Tryd.prog 92 #[.func (.func 139) #[] #[.pointer (some ⟨w.heap.size, 0, none⟩)]] (w.alloc (.cells #[.map (some b)] 128)) fun e w' => ∃ (v : Value) (ss : List (List UInt8)), e = .returned v ∧ ss.Perm (strKeys D0) ∧
      w'.ownsRow (w.alloc (.cells #[.map (some b)] 128)).heap.size 9 1 v ss.length ((ss.mergeSort (fun x y => decide (x ≤ y))).map encStr) ∧ (v = .slice none 0 0 ↔ ss = []) ∧ Below (w.alloc (.cells #[.map (some b)] 128)).heap.size (w.alloc (.cells #[.map (some b)] 128)) w' := by
  have hbl := hown.lt
  have hseq : SeqGives Fence.wide 2 Tryd.prog 139 #[.pointer (some ⟨w.heap.size, 0, none⟩)] encStr (fun ss => ss.Perm (strKeys D0)) (Maps.size D0) (w.alloc (.cells #[.map (some b)] 128)) :=
    AnyZ.keys_gives (ρ := Tryd.keys93_ren) { Tryd.keys93 with } Fence.wide _ trivial rfl (by omega) w.heap.size b nn D0 _ (by simp) (by simp) (by
      obtain ⟨es, clock, hb, Ft, hs, hD⟩ := hown
      exact ⟨es, clock, (Below.heap_alloc _ _ b hbl).trans hb, Ft, hs, hD⟩)
  exact AnyZ.sorted_in Tryd.sorted92 Fence.wide 5 trivial trivial trivial trivial rfl (by omega) (Tryd.sorts92 _) (enters_of Tryd.func134 (by kernel_rfl) rfl) 139 #[.pointer (some ⟨w.heap.size, 0, none⟩)] trivial (enters_of Tryd.func139 (by kernel_rfl) rfl) _ _ hmax hbytes _ hseq

theorem Tryd.slices_Sorted_keys_nil_92_93 (w : World) :
    CallsIn Fence.wide 5 Tryd.prog 92 #[.func (.func 139) #[] #[.pointer (some ⟨w.heap.size, 0, none⟩)]] (w.alloc (.cells #[.map none] 128)) fun e w' => ∃ (v : Value) (ss : List (List UInt8)), e = .returned v ∧ ss = [] ∧
      w'.ownsRow (w.alloc (.cells #[.map none] 128)).heap.size 9 1 v ss.length ((ss.mergeSort (fun x y => decide (x ≤ y))).map encStr) ∧ (v = .slice none 0 0 ↔ ss = []) ∧ Below (w.alloc (.cells #[.map none] 128)).heap.size (w.alloc (.cells #[.map none] 128)) w' := by
  have hseq : SeqGives Fence.wide 2 Tryd.prog 139 #[.pointer (some ⟨w.heap.size, 0, none⟩)] encStr (fun ss : List (List UInt8) => ss = []) 0 (w.alloc (.cells #[.map none] 128)) :=
    AnyZ.keys_gives_nil (ρ := Tryd.keys93_ren) { Tryd.keys93 with } Fence.wide _ trivial rfl w.heap.size _ (by simp) (by simp)
  exact AnyZ.sorted_in Tryd.sorted92 Fence.wide 5 trivial trivial trivial trivial rfl (by omega) (Tryd.sorts92 _) (enters_of Tryd.func134 (by kernel_rfl) rfl) 139 #[.pointer (some ⟨w.heap.size, 0, none⟩)] trivial (enters_of Tryd.func139 (by kernel_rfl) rfl) _ 0 (Nat.zero_le _) (by omega) _ hseq
end Go.Proofs
