/- Contracts of slices.Sorted over maps.Keys at this translation, as the kit lays them in plain words: each says its own conditions. -/

import Derived.Shelf.SlIter.Nil
import Derived.Shelf.SortM.Plain
import Derived.Shelf.SortM.SortNone
import Derived.Ground.GgzProg
import Derived.Ground.SlgmProg
import Derived.Test.YtnapbnkbchaanaaGreatDoorProg
namespace Go.Proofs
open Go.Shelf
def Tryz.keys93_ren : Go.Shelf.Ren := ⟨fun | 7 => 93 | 10 => 155 | n => n, fun | 23 => 127 | 26 => 9 | 3 => 4 | 28 => 130 | 0 => 0 | 27 => 129 | 33 => 95 | 4 => 4 | n => n, fun | n => n⟩
theorem Tryz.keys93 : Go.Proofs.SlLaysZ.n7 Tryz.prog Tryz.keys93_ren := {
  mixed := by kernel_rfl
  f7 := ⟨Tryz.f93.name, by decide, Tryz.func93.trans (congrArg some (by kernel_rfl))⟩
  f10 := ⟨Tryz.f155.name, by decide, Tryz.func155.trans (congrArg some (by kernel_rfl))⟩
  t0 := Tryz.underlying0
  a0 := Tryz.isAgg0
  z0 := Tryz.sizeOf0
  v0 := Tryz.zeroValue0
  t4 := Tryz.underlying4
  a4 := Tryz.isAgg4
  z4 := Tryz.sizeOf4
  v4 := Tryz.zeroValue4
  t23 := Tryz.underlying127
  a23 := Tryz.isAgg127
  z23 := Tryz.sizeOf127
  v23 := Tryz.zeroValue127
  t26 := Tryz.underlying9
  a26 := Tryz.isAgg9
  z26 := Tryz.sizeOf9
  v26 := Tryz.zeroValue9
  t27 := Tryz.underlying129
  a27 := Tryz.isAgg129
  z27 := Tryz.sizeOf129
  v27 := Tryz.zeroValue129
  t28 := Tryz.underlying130
  a28 := Tryz.isAgg130
  z28 := Tryz.sizeOf130
  v28 := Tryz.zeroValue130
  t33 := Tryz.underlying95
  a33 := Tryz.isAgg95
  z33 := Tryz.sizeOf95
  v33 := Tryz.zeroValue95 }
def Tryz.sorted92_ren : Go.Shelf.Ren := ⟨fun | 6 => 92 | 8 => 153 | 9 => 154 | 11 => 198 | 13 => 168 | 12 => 199 | 23 => 209 | 24 => 210 | 14 => 231 | 15 => 232 | 16 => 233 | 17 => 234 | 18 => 235 | 19 => 236 | 20 => 237 | 21 => 238 | 22 => 239 | 25 => 254 | 26 => 241 | 27 => 242 | 28 => 255 | 29 => 256 | 30 => 257 | 31 => 260 | n => n, fun | 26 => 9 | 28 => 130 | 24 => 27 | 0 => 0 | 3 => 3 | 37 => 150 | 48 => 202 | 50 => 205 | 4 => 4 | 40 => 236 | 39 => 235 | 45 => 102 | 5 => 5 | 9 => 9 | 51 => 266 | 55 => 270 | 57 => 279 | 58 => 115 | 33 => 95 | n => n, fun | n => n⟩
theorem Tryz.sorted92 : Go.Proofs.SlLaysZ.n6 Tryz.prog Tryz.sorted92_ren := {
  mixed := by kernel_rfl
  f6 := ⟨Tryz.f92.name, by decide, Tryz.func92.trans (congrArg some (by kernel_rfl))⟩
  f8 := ⟨Tryz.f153.name, by decide, Tryz.func153.trans (congrArg some (by kernel_rfl))⟩
  f11 := ⟨Tryz.f198.name, by decide, Tryz.func198.trans (congrArg some (by kernel_rfl))⟩
  t0 := Tryz.underlying0
  a0 := Tryz.isAgg0
  z0 := Tryz.sizeOf0
  v0 := Tryz.zeroValue0
  t24 := Tryz.underlying27
  a24 := Tryz.isAgg27
  z24 := Tryz.sizeOf27
  v24 := Tryz.zeroValue27
  t26 := Tryz.underlying9
  a26 := Tryz.isAgg9
  z26 := Tryz.sizeOf9
  v26 := Tryz.zeroValue9
  t28 := Tryz.underlying130
  a28 := Tryz.isAgg130
  z28 := Tryz.sizeOf130
  v28 := Tryz.zeroValue130
  i26 := by kernel_rfl }
def Tryz.sort154_ren : Go.Shelf.Ren := ⟨fun | 6 => 154 | 8 => 168 | 9 => 199 | 19 => 209 | 20 => 210 | 21 => 231 | 22 => 232 | 23 => 233 | 24 => 234 | 25 => 235 | 26 => 236 | 27 => 237 | 28 => 238 | 29 => 239 | 36 => 254 | 31 => 241 | 32 => 242 | 37 => 255 | 38 => 256 | 39 => 257 | 41 => 260 | n => n, fun | 27 => 27 | 29 => 9 | 3 => 3 | 32 => 150 | 26 => 27 | 0 => 0 | 44 => 202 | 46 => 205 | 4 => 4 | 36 => 236 | 35 => 235 | 41 => 102 | 5 => 5 | 9 => 9 | 53 => 266 | 57 => 270 | 63 => 279 | 64 => 115 | n => n, fun | n => n⟩
theorem Tryz.sort154 : Go.Proofs.SlLaysM.n6 Tryz.prog Tryz.sort154_ren := {
  mixed := by kernel_rfl
  f6 := ⟨Tryz.f154.name, by decide, Tryz.func154.trans (congrArg some (by kernel_rfl))⟩
  f8 := Tryz.func168.trans (congrArg some (by kernel_rfl))
  f9 := ⟨Tryz.f199.name, by decide, Tryz.func199.trans (congrArg some (by kernel_rfl))⟩
  f19 := Tryz.func209.trans (congrArg some (by kernel_rfl))
  f20 := Tryz.func210.trans (congrArg some (by kernel_rfl))
  f21 := ⟨Tryz.f231.name, by decide, Tryz.func231.trans (congrArg some (by kernel_rfl))⟩
  f22 := ⟨Tryz.f232.name, by decide, Tryz.func232.trans (congrArg some (by kernel_rfl))⟩
  f23 := ⟨Tryz.f233.name, by decide, Tryz.func233.trans (congrArg some (by kernel_rfl))⟩
  f24 := ⟨Tryz.f234.name, by decide, Tryz.func234.trans (congrArg some (by kernel_rfl))⟩
  f25 := ⟨Tryz.f235.name, by decide, Tryz.func235.trans (congrArg some (by kernel_rfl))⟩
  f26 := ⟨Tryz.f236.name, by decide, Tryz.func236.trans (congrArg some (by kernel_rfl))⟩
  f27 := ⟨Tryz.f237.name, by decide, Tryz.func237.trans (congrArg some (by kernel_rfl))⟩
  f28 := ⟨Tryz.f238.name, by decide, Tryz.func238.trans (congrArg some (by kernel_rfl))⟩
  f29 := ⟨Tryz.f239.name, by decide, Tryz.func239.trans (congrArg some (by kernel_rfl))⟩
  f31 := Tryz.func241.trans (congrArg some (by kernel_rfl))
  f32 := Tryz.func242.trans (congrArg some (by kernel_rfl))
  f36 := ⟨Tryz.f254.name, by decide, Tryz.func254.trans (congrArg some (by kernel_rfl))⟩
  f37 := ⟨Tryz.f255.name, by decide, Tryz.func255.trans (congrArg some (by kernel_rfl))⟩
  f38 := ⟨Tryz.f256.name, by decide, Tryz.func256.trans (congrArg some (by kernel_rfl))⟩
  f39 := ⟨Tryz.f257.name, by decide, Tryz.func257.trans (congrArg some (by kernel_rfl))⟩
  f41 := ⟨Tryz.f260.name, by decide, Tryz.func260.trans (congrArg some (by kernel_rfl))⟩
  t0 := Tryz.underlying0
  a0 := Tryz.isAgg0
  z0 := Tryz.sizeOf0
  v0 := Tryz.zeroValue0
  t3 := Tryz.underlying3
  a3 := Tryz.isAgg3
  z3 := Tryz.sizeOf3
  v3 := Tryz.zeroValue3
  t4 := Tryz.underlying4
  a4 := Tryz.isAgg4
  z4 := Tryz.sizeOf4
  v4 := Tryz.zeroValue4
  t5 := Tryz.underlying5
  a5 := Tryz.isAgg5
  z5 := Tryz.sizeOf5
  v5 := Tryz.zeroValue5
  t9 := Tryz.underlying9
  a9 := Tryz.isAgg9
  z9 := Tryz.sizeOf9
  v9 := Tryz.zeroValue9
  t26 := Tryz.underlying27
  a26 := Tryz.isAgg27
  z26 := Tryz.sizeOf27
  v26 := Tryz.zeroValue27
  t27 := Tryz.underlying27
  a27 := Tryz.isAgg27
  z27 := Tryz.sizeOf27
  v27 := Tryz.zeroValue27
  t29 := Tryz.underlying9
  a29 := Tryz.isAgg9
  z29 := Tryz.sizeOf9
  v29 := Tryz.zeroValue9
  t32 := Tryz.underlying150
  a32 := Tryz.isAgg150
  z32 := Tryz.sizeOf150
  v32 := Tryz.zeroValue150
  t35 := Tryz.underlying235
  a35 := Tryz.isAgg235
  z35 := Tryz.sizeOf235
  v35 := Tryz.zeroValue235
  t36 := Tryz.underlying236
  a36 := Tryz.isAgg236
  z36 := Tryz.sizeOf236
  v36 := Tryz.zeroValue236
  t41 := Tryz.underlying102
  a41 := Tryz.isAgg102
  z41 := Tryz.sizeOf102
  v41 := Tryz.zeroValue102
  t44 := Tryz.underlying202
  a44 := Tryz.isAgg202
  z44 := Tryz.sizeOf202
  v44 := Tryz.zeroValue202
  t46 := Tryz.underlying205
  a46 := Tryz.isAgg205
  z46 := Tryz.sizeOf205
  v46 := Tryz.zeroValue205
  t53 := Tryz.underlying266
  a53 := Tryz.isAgg266
  z53 := Tryz.sizeOf266
  v53 := Tryz.zeroValue266
  t57 := Tryz.underlying270
  a57 := Tryz.isAgg270
  z57 := Tryz.sizeOf270
  v57 := Tryz.zeroValue270
  t63 := Tryz.underlying279
  a63 := Tryz.isAgg279
  z63 := Tryz.sizeOf279
  v63 := Tryz.zeroValue279
  t64 := Tryz.underlying115
  a64 := Tryz.isAgg115
  z64 := Tryz.sizeOf115
  v64 := Tryz.zeroValue115 }
def Tryz.keys113_ren : Go.Shelf.Ren := ⟨fun | 7 => 113 | 10 => 172 | n => n, fun | 23 => 146 | 26 => 9 | 3 => 3 | 28 => 130 | 0 => 0 | 27 => 129 | 33 => 95 | 4 => 4 | n => n, fun | n => n⟩
theorem Tryz.keys113 : Go.Proofs.SlLaysZ.n7 Tryz.prog Tryz.keys113_ren := {
  mixed := by kernel_rfl
  f7 := ⟨Tryz.f113.name, by decide, Tryz.func113.trans (congrArg some (by kernel_rfl))⟩
  f10 := ⟨Tryz.f172.name, by decide, Tryz.func172.trans (congrArg some (by kernel_rfl))⟩
  t0 := Tryz.underlying0
  a0 := Tryz.isAgg0
  z0 := Tryz.sizeOf0
  v0 := Tryz.zeroValue0
  t4 := Tryz.underlying4
  a4 := Tryz.isAgg4
  z4 := Tryz.sizeOf4
  v4 := Tryz.zeroValue4
  t23 := Tryz.underlying146
  a23 := Tryz.isAgg146
  z23 := Tryz.sizeOf146
  v23 := Tryz.zeroValue146
  t26 := Tryz.underlying9
  a26 := Tryz.isAgg9
  z26 := Tryz.sizeOf9
  v26 := Tryz.zeroValue9
  t27 := Tryz.underlying129
  a27 := Tryz.isAgg129
  z27 := Tryz.sizeOf129
  v27 := Tryz.zeroValue129
  t28 := Tryz.underlying130
  a28 := Tryz.isAgg130
  z28 := Tryz.sizeOf130
  v28 := Tryz.zeroValue130
  t33 := Tryz.underlying95
  a33 := Tryz.isAgg95
  z33 := Tryz.sizeOf95
  v33 := Tryz.zeroValue95 }
open Go.RowKit Go.Maps Go.Sort
theorem Tryz.sorts92 (m : Nat) : AnyZ.SortsIn Tryz.prog Tryz.sorted92_ren Fence.wide m :=
  ⟨fun blk off cap ss W hH hblk hsz => callsIn_wide.2 (AnyM.slices_Sort_string Tryz.sort154 blk off cap ss W hH hblk hsz),
   fun p cap W => callsIn_wide.2 (AnyM.slices_Sort_string_none Tryz.sort154 p cap W)⟩

theorem Tryz.maps_Keys_93 (mb : Option Nat) (W : World) : CallsIn Fence.wide 5 Tryz.prog 93 #[.map mb] W fun e w' => e = .returned (.func (.func 155) #[] #[.pointer (some ⟨W.heap.size, 0, none⟩)]) ∧ w' = W.alloc (.cells #[.map mb] 127) :=
  AnyZ.keys_in Tryz.keys93 Fence.wide 5 trivial rfl mb W

theorem Tryz.slices_Sorted_keys_92_93 {H : Type} (b nn : Nat) (D0 : DataW H) (R : Value → Option (DataW H × List MemPlace)) (w : World) (hown : w.ownsMap Tryz.prog 9 R b nn D0) (hmax : Maps.size D0 ≤ maxLen) (hbytes : Maps.size D0 * 16 ≤ 140737488355328) :
    CallsIn Fence.wide 5 Tryz.prog 92 #[.func (.func 155) #[] #[.pointer (some ⟨w.heap.size, 0, none⟩)]] (w.alloc (.cells #[.map (some b)] 127)) fun e w' => ∃ (v : Value) (ss : List (List UInt8)), e = .returned v ∧ ss.Perm (strKeys D0) ∧
      w'.ownsRow (w.alloc (.cells #[.map (some b)] 127)).heap.size 9 1 v ss.length ((ss.mergeSort (fun x y => decide (x ≤ y))).map encStr) ∧ (v = .slice none 0 0 ↔ ss = []) ∧ Below (w.alloc (.cells #[.map (some b)] 127)).heap.size (w.alloc (.cells #[.map (some b)] 127)) w' := by
  have hbl := hown.lt
  have hseq : SeqGives Fence.wide 2 Tryz.prog 155 #[.pointer (some ⟨w.heap.size, 0, none⟩)] encStr (fun ss => ss.Perm (strKeys D0)) (Maps.size D0) (w.alloc (.cells #[.map (some b)] 127)) :=
    AnyZ.keys_gives (ρ := Tryz.keys93_ren) { Tryz.keys93 with } Fence.wide _ trivial rfl (by omega) w.heap.size b nn D0 _ (by simp) (by simp) (by
      obtain ⟨es, clock, hb, Ft, hs, hD⟩ := hown
      exact ⟨es, clock, (Below.heap_alloc _ _ b hbl).trans hb, Ft, hs, hD⟩)
  exact AnyZ.sorted_in Tryz.sorted92 Fence.wide 5 trivial trivial trivial trivial rfl (by omega) (Tryz.sorts92 _) (enters_of Tryz.func154 (by kernel_rfl) rfl) 155 #[.pointer (some ⟨w.heap.size, 0, none⟩)] trivial (enters_of Tryz.func155 (by kernel_rfl) rfl) _ _ hmax hbytes _ hseq

theorem Tryz.slices_Sorted_keys_nil_92_93 (w : World) :
    CallsIn Fence.wide 5 Tryz.prog 92 #[.func (.func 155) #[] #[.pointer (some ⟨w.heap.size, 0, none⟩)]] (w.alloc (.cells #[.map none] 127)) fun e w' => ∃ (v : Value) (ss : List (List UInt8)), e = .returned v ∧ ss = [] ∧
      w'.ownsRow (w.alloc (.cells #[.map none] 127)).heap.size 9 1 v ss.length ((ss.mergeSort (fun x y => decide (x ≤ y))).map encStr) ∧ (v = .slice none 0 0 ↔ ss = []) ∧ Below (w.alloc (.cells #[.map none] 127)).heap.size (w.alloc (.cells #[.map none] 127)) w' := by
  have hseq : SeqGives Fence.wide 2 Tryz.prog 155 #[.pointer (some ⟨w.heap.size, 0, none⟩)] encStr (fun ss : List (List UInt8) => ss = []) 0 (w.alloc (.cells #[.map none] 127)) :=
    AnyZ.keys_gives_nil (ρ := Tryz.keys93_ren) { Tryz.keys93 with } Fence.wide _ trivial rfl w.heap.size _ (by simp) (by simp)
  exact AnyZ.sorted_in Tryz.sorted92 Fence.wide 5 trivial trivial trivial trivial rfl (by omega) (Tryz.sorts92 _) (enters_of Tryz.func154 (by kernel_rfl) rfl) 155 #[.pointer (some ⟨w.heap.size, 0, none⟩)] trivial (enters_of Tryz.func155 (by kernel_rfl) rfl) _ 0 (Nat.zero_le _) (by omega) _ hseq

theorem Tryz.maps_Keys_113 (mb : Option Nat) (W : World) : CallsIn Fence.wide 5 Tryz.prog 113 #[.map mb] W fun e w' => e = .returned (.func (.func 172) #[] #[.pointer (some ⟨W.heap.size, 0, none⟩)]) ∧ w' = W.alloc (.cells #[.map mb] 146) :=
  AnyZ.keys_in Tryz.keys113 Fence.wide 5 trivial rfl mb W

theorem Tryz.slices_Sorted_keys_92_113 {H : Type} (b nn : Nat) (D0 : DataW H) (R : Value → Option (DataW H × List MemPlace)) (w : World) (hown : w.ownsMap Tryz.prog 9 R b nn D0) (hmax : Maps.size D0 ≤ maxLen) (hbytes : Maps.size D0 * 16 ≤ 140737488355328) :
    CallsIn Fence.wide 5 Tryz.prog 92 #[.func (.func 172) #[] #[.pointer (some ⟨w.heap.size, 0, none⟩)]] (w.alloc (.cells #[.map (some b)] 146)) fun e w' => ∃ (v : Value) (ss : List (List UInt8)), e = .returned v ∧ ss.Perm (strKeys D0) ∧
      w'.ownsRow (w.alloc (.cells #[.map (some b)] 146)).heap.size 9 1 v ss.length ((ss.mergeSort (fun x y => decide (x ≤ y))).map encStr) ∧ (v = .slice none 0 0 ↔ ss = []) ∧ Below (w.alloc (.cells #[.map (some b)] 146)).heap.size (w.alloc (.cells #[.map (some b)] 146)) w' := by
  have hbl := hown.lt
  have hseq : SeqGives Fence.wide 2 Tryz.prog 172 #[.pointer (some ⟨w.heap.size, 0, none⟩)] encStr (fun ss => ss.Perm (strKeys D0)) (Maps.size D0) (w.alloc (.cells #[.map (some b)] 146)) :=
    AnyZ.keys_gives (ρ := Tryz.keys113_ren) { Tryz.keys113 with } Fence.wide _ trivial rfl (by omega) w.heap.size b nn D0 _ (by simp) (by simp) (by
      obtain ⟨es, clock, hb, Ft, hs, hD⟩ := hown
      exact ⟨es, clock, (Below.heap_alloc _ _ b hbl).trans hb, Ft, hs, hD⟩)
  exact AnyZ.sorted_in Tryz.sorted92 Fence.wide 5 trivial trivial trivial trivial rfl (by omega) (Tryz.sorts92 _) (enters_of Tryz.func154 (by kernel_rfl) rfl) 172 #[.pointer (some ⟨w.heap.size, 0, none⟩)] trivial (enters_of Tryz.func172 (by kernel_rfl) rfl) _ _ hmax hbytes _ hseq

theorem Tryz.slices_Sorted_keys_nil_92_113 (w : World) :
    CallsIn Fence.wide 5 Tryz.prog 92 #[.func (.func 172) #[] #[.pointer (some ⟨w.heap.size, 0, none⟩)]] (w.alloc (.cells #[.map none] 146)) fun e w' => ∃ (v : Value) (ss : List (List UInt8)), e = .returned v ∧ ss = [] ∧
      w'.ownsRow (w.alloc (.cells #[.map none] 146)).heap.size 9 1 v ss.length ((ss.mergeSort (fun x y => decide (x ≤ y))).map encStr) ∧ (v = .slice none 0 0 ↔ ss = []) ∧ Below (w.alloc (.cells #[.map none] 146)).heap.size (w.alloc (.cells #[.map none] 146)) w' := by
  have hseq : SeqGives Fence.wide 2 Tryz.prog 172 #[.pointer (some ⟨w.heap.size, 0, none⟩)] encStr (fun ss : List (List UInt8) => ss = []) 0 (w.alloc (.cells #[.map none] 146)) :=
    AnyZ.keys_gives_nil (ρ := Tryz.keys113_ren) { Tryz.keys113 with } Fence.wide _ trivial rfl w.heap.size _ (by simp) (by simp)
  exact AnyZ.sorted_in Tryz.sorted92 Fence.wide 5 trivial trivial trivial trivial rfl (by omega) (Tryz.sorts92 _) (enters_of Tryz.func154 (by kernel_rfl) rfl) 172 #[.pointer (some ⟨w.heap.size, 0, none⟩)] trivial (enters_of Tryz.func172 (by kernel_rfl) rfl) _ 0 (Nat.zero_le _) (by omega) _ hseq
end Go.Proofs
