/- A part of the proof of FnExactBookSteps: texts Sr Sh K K2 M1 M2 M3 M4 M5 M6 M7 M8 M9 M10. -/
import Derived.Shelf.SlSortCmp.NoneTotal
import Derived.Ground.SlsfProg
import Derived.Test.YtccifbbjbnjcfaaGreatDoorProg
import Derived.Shelf.Strings.Split
import Derived.WalkKit
import Derived.Below
import Derived.Laws.OwnMore
import Derived.Deep.Draws
import Derived.Maps.AppendAt
import Derived.Deep.AppendLies
import Derived.RegionTactic
import Derived.OwnWalk
import Derived.Lib.Hide
import Derived.KernelRfl
import Derived.Deep.MidRow
import Derived.Laws.Entries
import Derived.Laws.StructEq
import Derived.Laws.BytesArg
set_option linter.unusedSimpArgs false
set_option linter.unusedVariables false
/-
  DERIVED: THE SHELF's CONTRACTS AT THIS DUMP, IN PLAIN WORDS (tools/lay-plain.mjs out of 'YtccifbbjbnjcfaaGreatDoorSr.lean', which tools/lay-shelf.mjs wrote): THE SAME DECLARATIONS UNDER THE SAME NAMES: 'import', 'namespace', 'open', 'def', 'theorem' AND NOTHING ELSE: no command of the shelf's: FOR A HAND-IN. Each laying: the table of numbers ('.._ren') and one theorem, a field a fact of the dump's own or the kernel's comparison; each contract: ONE APPLICATION.
-/
namespace Go.Proofs
open Go.Shelf
def Tryz.sortC_ren : Go.Shelf.Ren := ⟨fun | 6 => 127 | 15 => 142 | 14 => 141 | 28 => 158 | 29 => 159 | 20 => 150 | 21 => 151 | 22 => 152 | 23 => 153 | 24 => 154 | 25 => 155 | 26 => 156 | 27 => 157 | 46 => 167 | 47 => 168 | 48 => 169 | 49 => 170 | 50 => 171 | 57 => 177 | n => n, fun | 22 => 29 | 24 => 79 | 25 => 139 | 3 => 3 | 39 => 153 | 0 => 0 | 53 => 168 | 55 => 170 | 4 => 4 | 46 => 161 | 45 => 160 | 50 => 165 | 5 => 5 | 9 => 9 | 66 => 177 | 70 => 181 | 76 => 183 | 77 => 184 | n => n, fun | n => n⟩
theorem Tryz.sortC : Go.Proofs.SlLaysF0.n6 Tryz.prog Tryz.sortC_ren := {
  mixed := by kernel_rfl
  f6 := ⟨Tryz.f127.name, by decide, Tryz.func127.trans (congrArg some (by kernel_rfl))⟩
  f14 := ⟨Tryz.f141.name, by decide, Tryz.func141.trans (congrArg some (by kernel_rfl))⟩
  f15 := Tryz.func142.trans (congrArg some (by kernel_rfl))
  f20 := ⟨Tryz.f150.name, by decide, Tryz.func150.trans (congrArg some (by kernel_rfl))⟩
  f21 := ⟨Tryz.f151.name, by decide, Tryz.func151.trans (congrArg some (by kernel_rfl))⟩
  f22 := ⟨Tryz.f152.name, by decide, Tryz.func152.trans (congrArg some (by kernel_rfl))⟩
  f23 := ⟨Tryz.f153.name, by decide, Tryz.func153.trans (congrArg some (by kernel_rfl))⟩
  f24 := ⟨Tryz.f154.name, by decide, Tryz.func154.trans (congrArg some (by kernel_rfl))⟩
  f25 := ⟨Tryz.f155.name, by decide, Tryz.func155.trans (congrArg some (by kernel_rfl))⟩
  f26 := ⟨Tryz.f156.name, by decide, Tryz.func156.trans (congrArg some (by kernel_rfl))⟩
  f27 := ⟨Tryz.f157.name, by decide, Tryz.func157.trans (congrArg some (by kernel_rfl))⟩
  f28 := Tryz.func158.trans (congrArg some (by kernel_rfl))
  f29 := Tryz.func159.trans (congrArg some (by kernel_rfl))
  f46 := ⟨Tryz.f167.name, by decide, Tryz.func167.trans (congrArg some (by kernel_rfl))⟩
  f47 := Tryz.func168.trans (congrArg some (by kernel_rfl))
  f48 := Tryz.func169.trans (congrArg some (by kernel_rfl))
  f49 := ⟨Tryz.f170.name, by decide, Tryz.func170.trans (congrArg some (by kernel_rfl))⟩
  f50 := ⟨Tryz.f171.name, by decide, Tryz.func171.trans (congrArg some (by kernel_rfl))⟩
  f57 := ⟨Tryz.f177.name, by decide, Tryz.func177.trans (congrArg some (by kernel_rfl))⟩
  t0 := Tryz.underlying0
  a0 := Tryz.isAgg0
  z0 := Tryz.sizeOf0
  v0 := Tryz.zeroValue0
  t3 := Tryz.underlying3
  a3 := Tryz.isAgg3
  z3 := Tryz.sizeOf3
  v3 := Tryz.zeroValue3
  t4 := Tryz.underlying4
  a4 := Tryz.isAgg4
  z4 := Tryz.sizeOf4
  v4 := Tryz.zeroValue4
  t5 := Tryz.underlying5
  a5 := Tryz.isAgg5
  z5 := Tryz.sizeOf5
  v5 := Tryz.zeroValue5
  t9 := Tryz.underlying9
  a9 := Tryz.isAgg9
  z9 := Tryz.sizeOf9
  v9 := Tryz.zeroValue9
  t22 := Tryz.underlying29
  a22 := Tryz.isAgg29
  z22 := Tryz.sizeOf29
  v22 := Tryz.zeroValue29
  t25 := Tryz.underlying139
  a25 := Tryz.isAgg139
  z25 := Tryz.sizeOf139
  v25 := Tryz.zeroValue139
  t39 := Tryz.underlying153
  a39 := Tryz.isAgg153
  z39 := Tryz.sizeOf153
  v39 := Tryz.zeroValue153
  t45 := Tryz.underlying160
  a45 := Tryz.isAgg160
  z45 := Tryz.sizeOf160
  v45 := Tryz.zeroValue160
  t46 := Tryz.underlying161
  a46 := Tryz.isAgg161
  z46 := Tryz.sizeOf161
  v46 := Tryz.zeroValue161
  t50 := Tryz.underlying165
  a50 := Tryz.isAgg165
  z50 := Tryz.sizeOf165
  v50 := Tryz.zeroValue165
  t53 := Tryz.underlying168
  a53 := Tryz.isAgg168
  z53 := Tryz.sizeOf168
  v53 := Tryz.zeroValue168
  t55 := Tryz.underlying170
  a55 := Tryz.isAgg170
  z55 := Tryz.sizeOf170
  v55 := Tryz.zeroValue170
  t66 := Tryz.underlying177
  a66 := Tryz.isAgg177
  z66 := Tryz.sizeOf177
  v66 := Tryz.zeroValue177
  t70 := Tryz.underlying181
  a70 := Tryz.isAgg181
  z70 := Tryz.sizeOf181
  v70 := Tryz.zeroValue181
  t76 := Tryz.underlying183
  a76 := Tryz.isAgg183
  z76 := Tryz.sizeOf183
  v76 := Tryz.zeroValue183
  t77 := Tryz.underlying184
  a77 := Tryz.isAgg184
  z77 := Tryz.sizeOf184
  v77 := Tryz.zeroValue184 }
end Go.Proofs
/-
  DERIVED: THE SHELF's CONTRACTS AT THIS DUMP, IN PLAIN WORDS (tools/lay-plain.mjs out of 'YtccifbbjbnjcfaaGreatDoorSh.lean', which tools/lay-shelf.mjs wrote): THE SAME DECLARATIONS UNDER THE SAME NAMES: 'import', 'namespace', 'open', 'def', 'theorem' AND NOTHING ELSE: no command of the shelf's: FOR A HAND-IN. Each laying: the table of numbers ('.._ren') and one theorem, a field a fact of the dump's own or the kernel's comparison; each contract: ONE APPLICATION.
-/
namespace Go.Proofs
open Go.Shelf
def Tryz.lays143_ren : Go.Shelf.Ren := ⟨fun | 143 => 147 | 219 => 165 | 217 => 173 | 225 => 174 | 224 => 175 | 267 => 176 | 266 => 178 | 314 => 179 | n => n, fun | 9 => 9 | 3 => 3 | 4 => 4 | 5 => 5 | 46 => 153 | 146 => 190 | 51 => 168 | n => n, fun | 1 => 0 | n => n⟩
theorem Tryz.lays143 : Go.Proofs.Lays.n143 Tryz.prog Tryz.lays143_ren := {
  mixed := by kernel_rfl
  f143 := Tryz.func147.trans (congrArg some (by kernel_rfl))
  f217 := Tryz.func173.trans (congrArg some (by kernel_rfl))
  f219 := Tryz.func165.trans (congrArg some (by kernel_rfl))
  f224 := Tryz.func175.trans (congrArg some (by kernel_rfl))
  f225 := Tryz.func174.trans (congrArg some (by kernel_rfl))
  f266 := Tryz.func178.trans (congrArg some (by kernel_rfl))
  f267 := Tryz.func176.trans (congrArg some (by kernel_rfl))
  f314 := Tryz.func179.trans (congrArg some (by kernel_rfl))
  t3 := Tryz.underlying3
  a3 := Tryz.isAgg3
  z3 := Tryz.sizeOf3
  v3 := Tryz.zeroValue3
  t4 := Tryz.underlying4
  a4 := Tryz.isAgg4
  z4 := Tryz.sizeOf4
  v4 := Tryz.zeroValue4
  t5 := Tryz.underlying5
  a5 := Tryz.isAgg5
  z5 := Tryz.sizeOf5
  v5 := Tryz.zeroValue5
  t9 := Tryz.underlying9
  a9 := Tryz.isAgg9
  z9 := Tryz.sizeOf9
  v9 := Tryz.zeroValue9
  t46 := Tryz.underlying153
  a46 := Tryz.isAgg153
  z46 := Tryz.sizeOf153
  v46 := Tryz.zeroValue153
  t51 := Tryz.underlying168
  a51 := Tryz.isAgg168
  z51 := Tryz.sizeOf168
  v51 := Tryz.zeroValue168
  t146 := Tryz.underlying190
  a146 := Tryz.isAgg190
  z146 := Tryz.sizeOf190
  v146 := Tryz.zeroValue190
  g1 := by kernel_rfl }
def Tryz.lays138_ren : Go.Shelf.Ren := ⟨fun | 138 => 146 | 195 => 162 | 218 => 164 | 143 => 147 | 219 => 165 | 217 => 173 | 225 => 174 | 224 => 175 | 267 => 176 | 266 => 178 | 314 => 179 | n => n, fun | 9 => 9 | 3 => 3 | 4 => 4 | 5 => 5 | 0 => 0 | 46 => 153 | 146 => 190 | 51 => 168 | n => n, fun | 1 => 0 | n => n⟩
theorem Tryz.lays138 : Go.Proofs.Lays.n138 Tryz.prog Tryz.lays138_ren := {
  mixed := by kernel_rfl
  f138 := Tryz.func146.trans (congrArg some (by kernel_rfl))
  f143 := Tryz.func147.trans (congrArg some (by kernel_rfl))
  f195 := Tryz.func162.trans (congrArg some (by kernel_rfl))
  f217 := Tryz.func173.trans (congrArg some (by kernel_rfl))
  f218 := Tryz.func164.trans (congrArg some (by kernel_rfl))
  f219 := Tryz.func165.trans (congrArg some (by kernel_rfl))
  f224 := Tryz.func175.trans (congrArg some (by kernel_rfl))
  f225 := Tryz.func174.trans (congrArg some (by kernel_rfl))
  f266 := Tryz.func178.trans (congrArg some (by kernel_rfl))
  f267 := Tryz.func176.trans (congrArg some (by kernel_rfl))
  f314 := Tryz.func179.trans (congrArg some (by kernel_rfl))
  t0 := Tryz.underlying0
  a0 := Tryz.isAgg0
  z0 := Tryz.sizeOf0
  v0 := Tryz.zeroValue0
  t3 := Tryz.underlying3
  a3 := Tryz.isAgg3
  z3 := Tryz.sizeOf3
  v3 := Tryz.zeroValue3
  t4 := Tryz.underlying4
  a4 := Tryz.isAgg4
  z4 := Tryz.sizeOf4
  v4 := Tryz.zeroValue4
  t5 := Tryz.underlying5
  a5 := Tryz.isAgg5
  z5 := Tryz.sizeOf5
  v5 := Tryz.zeroValue5
  t9 := Tryz.underlying9
  a9 := Tryz.isAgg9
  z9 := Tryz.sizeOf9
  v9 := Tryz.zeroValue9
  t46 := Tryz.underlying153
  a46 := Tryz.isAgg153
  z46 := Tryz.sizeOf153
  v46 := Tryz.zeroValue153
  t51 := Tryz.underlying168
  a51 := Tryz.isAgg168
  z51 := Tryz.sizeOf168
  v51 := Tryz.zeroValue168
  t146 := Tryz.underlying190
  a146 := Tryz.isAgg190
  z146 := Tryz.sizeOf190
  v146 := Tryz.zeroValue190
  g1 := by kernel_rfl }
def Tryz.lays221_ren : Go.Shelf.Ren := ⟨fun | 221 => 139 | 268 => 145 | 138 => 146 | 143 => 147 | 195 => 162 | 197 => 163 | 218 => 164 | 219 => 165 | 260 => 172 | 217 => 173 | 225 => 174 | 224 => 175 | 267 => 176 | 266 => 178 | 314 => 179 | n => n, fun | 9 => 9 | 3 => 3 | 31 => 136 | 4 => 4 | 0 => 0 | 105 => 173 | 21 => 21 | 5 => 5 | 46 => 153 | 119 => 186 | 139 => 189 | 138 => 188 | 146 => 190 | 51 => 168 | n => n, fun | 1 => 0 | 3 => 1 | 4 => 2 | n => n⟩
theorem Tryz.lays221 : Go.Proofs.Lays.n221 Tryz.prog Tryz.lays221_ren := {
  mixed := by kernel_rfl
  f138 := Tryz.func146.trans (congrArg some (by kernel_rfl))
  f143 := Tryz.func147.trans (congrArg some (by kernel_rfl))
  f195 := Tryz.func162.trans (congrArg some (by kernel_rfl))
  f197 := Tryz.func163.trans (congrArg some (by kernel_rfl))
  f217 := Tryz.func173.trans (congrArg some (by kernel_rfl))
  f218 := Tryz.func164.trans (congrArg some (by kernel_rfl))
  f219 := Tryz.func165.trans (congrArg some (by kernel_rfl))
  f221 := Tryz.func139.trans (congrArg some (by kernel_rfl))
  f224 := Tryz.func175.trans (congrArg some (by kernel_rfl))
  f225 := Tryz.func174.trans (congrArg some (by kernel_rfl))
  f260 := Tryz.func172.trans (congrArg some (by kernel_rfl))
  f266 := Tryz.func178.trans (congrArg some (by kernel_rfl))
  f267 := Tryz.func176.trans (congrArg some (by kernel_rfl))
  f268 := Tryz.func145.trans (congrArg some (by kernel_rfl))
  f314 := Tryz.func179.trans (congrArg some (by kernel_rfl))
  t0 := Tryz.underlying0
  a0 := Tryz.isAgg0
  z0 := Tryz.sizeOf0
  v0 := Tryz.zeroValue0
  t3 := Tryz.underlying3
  a3 := Tryz.isAgg3
  z3 := Tryz.sizeOf3
  v3 := Tryz.zeroValue3
  t4 := Tryz.underlying4
  a4 := Tryz.isAgg4
  z4 := Tryz.sizeOf4
  v4 := Tryz.zeroValue4
  t5 := Tryz.underlying5
  a5 := Tryz.isAgg5
  z5 := Tryz.sizeOf5
  v5 := Tryz.zeroValue5
  t9 := Tryz.underlying9
  a9 := Tryz.isAgg9
  z9 := Tryz.sizeOf9
  v9 := Tryz.zeroValue9
  t21 := Tryz.underlying21
  a21 := Tryz.isAgg21
  z21 := Tryz.sizeOf21
  v21 := Tryz.zeroValue21
  t31 := Tryz.underlying136
  a31 := Tryz.isAgg136
  z31 := Tryz.sizeOf136
  v31 := Tryz.zeroValue136
  t46 := Tryz.underlying153
  a46 := Tryz.isAgg153
  z46 := Tryz.sizeOf153
  v46 := Tryz.zeroValue153
  t51 := Tryz.underlying168
  a51 := Tryz.isAgg168
  z51 := Tryz.sizeOf168
  v51 := Tryz.zeroValue168
  t105 := Tryz.underlying173
  a105 := Tryz.isAgg173
  z105 := Tryz.sizeOf173
  v105 := Tryz.zeroValue173
  t119 := Tryz.underlying186
  a119 := Tryz.isAgg186
  z119 := Tryz.sizeOf186
  t138 := Tryz.underlying188
  a138 := Tryz.isAgg188
  z138 := Tryz.sizeOf188
  v138 := Tryz.zeroValue188
  t139 := Tryz.underlying189
  a139 := Tryz.isAgg189
  z139 := Tryz.sizeOf189
  v139 := Tryz.zeroValue189
  t146 := Tryz.underlying190
  a146 := Tryz.isAgg190
  z146 := Tryz.sizeOf190
  v146 := Tryz.zeroValue190
  g1 := by kernel_rfl
  g3 := by kernel_rfl
  g4 := by kernel_rfl }
def Tryz.lays146_ren : Go.Shelf.Ren := ⟨fun | 146 => 121 | 221 => 139 | 268 => 145 | 138 => 146 | 143 => 147 | 195 => 162 | 197 => 163 | 218 => 164 | 219 => 165 | 260 => 172 | 217 => 173 | 225 => 174 | 224 => 175 | 267 => 176 | 266 => 178 | 314 => 179 | n => n, fun | 9 => 9 | 31 => 136 | 3 => 3 | 4 => 4 | 0 => 0 | 105 => 173 | 21 => 21 | 5 => 5 | 46 => 153 | 119 => 186 | 139 => 189 | 138 => 188 | 146 => 190 | 51 => 168 | n => n, fun | 1 => 0 | 3 => 1 | 4 => 2 | n => n⟩
theorem Tryz.lays146 : Go.Proofs.Lays.n146 Tryz.prog Tryz.lays146_ren := {
  mixed := by kernel_rfl
  f138 := Tryz.func146.trans (congrArg some (by kernel_rfl))
  f143 := Tryz.func147.trans (congrArg some (by kernel_rfl))
  f146 := Tryz.func121.trans (congrArg some (by kernel_rfl))
  f195 := Tryz.func162.trans (congrArg some (by kernel_rfl))
  f197 := Tryz.func163.trans (congrArg some (by kernel_rfl))
  f217 := Tryz.func173.trans (congrArg some (by kernel_rfl))
  f218 := Tryz.func164.trans (congrArg some (by kernel_rfl))
  f219 := Tryz.func165.trans (congrArg some (by kernel_rfl))
  f221 := Tryz.func139.trans (congrArg some (by kernel_rfl))
  f224 := Tryz.func175.trans (congrArg some (by kernel_rfl))
  f225 := Tryz.func174.trans (congrArg some (by kernel_rfl))
  f260 := Tryz.func172.trans (congrArg some (by kernel_rfl))
  f266 := Tryz.func178.trans (congrArg some (by kernel_rfl))
  f267 := Tryz.func176.trans (congrArg some (by kernel_rfl))
  f268 := Tryz.func145.trans (congrArg some (by kernel_rfl))
  f314 := Tryz.func179.trans (congrArg some (by kernel_rfl))
  t0 := Tryz.underlying0
  a0 := Tryz.isAgg0
  z0 := Tryz.sizeOf0
  v0 := Tryz.zeroValue0
  t3 := Tryz.underlying3
  a3 := Tryz.isAgg3
  z3 := Tryz.sizeOf3
  v3 := Tryz.zeroValue3
  t4 := Tryz.underlying4
  a4 := Tryz.isAgg4
  z4 := Tryz.sizeOf4
  v4 := Tryz.zeroValue4
  t5 := Tryz.underlying5
  a5 := Tryz.isAgg5
  z5 := Tryz.sizeOf5
  v5 := Tryz.zeroValue5
  t9 := Tryz.underlying9
  a9 := Tryz.isAgg9
  z9 := Tryz.sizeOf9
  v9 := Tryz.zeroValue9
  t21 := Tryz.underlying21
  a21 := Tryz.isAgg21
  z21 := Tryz.sizeOf21
  v21 := Tryz.zeroValue21
  t31 := Tryz.underlying136
  a31 := Tryz.isAgg136
  z31 := Tryz.sizeOf136
  v31 := Tryz.zeroValue136
  t46 := Tryz.underlying153
  a46 := Tryz.isAgg153
  z46 := Tryz.sizeOf153
  v46 := Tryz.zeroValue153
  t51 := Tryz.underlying168
  a51 := Tryz.isAgg168
  z51 := Tryz.sizeOf168
  v51 := Tryz.zeroValue168
  t105 := Tryz.underlying173
  a105 := Tryz.isAgg173
  z105 := Tryz.sizeOf173
  v105 := Tryz.zeroValue173
  t119 := Tryz.underlying186
  a119 := Tryz.isAgg186
  z119 := Tryz.sizeOf186
  t138 := Tryz.underlying188
  a138 := Tryz.isAgg188
  z138 := Tryz.sizeOf188
  v138 := Tryz.zeroValue188
  t139 := Tryz.underlying189
  a139 := Tryz.isAgg189
  z139 := Tryz.sizeOf189
  v139 := Tryz.zeroValue189
  t146 := Tryz.underlying190
  a146 := Tryz.isAgg190
  z146 := Tryz.sizeOf190
  v146 := Tryz.zeroValue190
  g1 := by kernel_rfl
  g3 := by kernel_rfl
  g4 := by kernel_rfl }
end Go.Proofs
/-
  Words for memory: a slice that reads as a list of cells (Rd), and how that is carried from world to world.
-/
namespace Go.Proofs.YtccifbbjbnjcfaaGreatDoor
open Go Go.RowKit

/-- The slice value with address A reads n elements of 'size' cells each: the cells xs; its block lies from L on. -/
def Rd (w : World) (L size : Nat) (A : Option Addr) (n : Nat) (xs : List Value) : Prop :=
  xs.length = n * size ∧ (0 < n → ∃ b off, A = some ⟨b, off, none⟩ ∧ L ≤ b ∧ b < w.heap.size ∧ ∀ j u, xs[j]? = some u → w.cell? ⟨b, off + j, none⟩ = some u)

section
variable {w w' : World} {L L' B size n : Nat} {A : Option Addr} {xs : List Value}

theorem Rd.keep (h : Rd w L size A n xs) (hs : w.heap.size ≤ w'.heap.size) (hk : ∀ b, L ≤ b → b < w.heap.size → w'.heap[b]? = w.heap[b]?) : Rd w' L size A n xs :=
  ⟨h.1, fun hn => by
    obtain ⟨b, off, e, hl, hb, hc⟩ := h.2 hn
    exact ⟨b, off, e, hl, by omega, fun j u hu => (World.cell?_of_block (hk b hl hb)).trans (hc j u hu)⟩⟩
theorem Rd.below (h : Rd w L size A n xs) (hb : Below w.heap.size w w') : Rd w' L size A n xs := h.keep hb.size fun _ _ h2 => hb.block _ h2
theorem Rd.alloc (h : Rd w L size A n xs) (o : Obj) : Rd (w.alloc o) L size A n xs := h.below ((Below.refl _ _).alloc (Nat.le_refl _) o)
theorem Rd.drew (h : Rd w L size A n xs) : Rd w.drew L size A n xs := h
theorem Rd.drewN (h : Rd w L size A n xs) (k : Nat) : Rd (w.drewN k) L size A n xs := h
theorem Rd.grown (h : Rd w L size A n xs) {row : Option Nat} (hg : w.grownBy w' row) (hr : ∀ g, row = some g → g < L) : Rd w' L size A n xs :=
  h.keep hg.size fun b h1 h2 => hg.block b h2 (fun e => by have := hr b e.symm; omega)
theorem Rd.nil : Rd w L size A 0 [] := ⟨by simp, fun h => absurd h (by omega)⟩
theorem Rd.of_own {base : Nat} {e : TypeId} {c : Nat} (h : w.ownsRow base e size (.slice A n c) n xs) : Rd w base size A n xs := by
  refine ⟨h.1, fun hn => ?_⟩
  obtain ⟨g, cap, hv, hb, hlt⟩ := h.form hn
  have hA : A = some ⟨g, 0, none⟩ := by injection hv
  subst hA
  refine ⟨g, 0, rfl, hb, hlt, fun j u hu => ?_⟩
  have := h.cells (g := g) rfl j u hu
  simpa only [Addr.add_lit] using this
end

end Go.Proofs.YtccifbbjbnjcfaaGreatDoor
/-
  append onto a row of the call's own, whatever the source (nil, empty, or not); make; the words for []int.
-/
namespace Go.Proofs.YtccifbbjbnjcfaaGreatDoor
open Go Go.RowKit

section
variable {P : Program} (w : World)

theorem run_append_rd (base : Nat) (t ty e : TypeId) (i : TypeInfo) (z : Value) (size bytes : Nat) (ht : P.underlying t = some (.slice e)) (hi : P.info? e = some i) (hz : i.zero = some z)
    (hsize : i.size = size) (hby : i.bytes = bytes) (hzs : z.cells.size = size) (hsz : 0 < size)
    (v : Value) (n : Nat) (xs : List Value) (hown : w.ownsRow base e size v n xs)
    (L : Nat) (A : Option Addr) (m c : Nat) (news : List Value) (hr : Rd w L size A m news) (h1 : ∀ u ∈ news, u.oneCell' = true)
    (h63 : n + m ≤ maxLen) (hbytes : (n + m) * bytes ≤ 140737488355328) (hbase : base ≤ w.heap.size) :
    ∃ v' w', (Builtin.append_ #[t, t] ty #[v, .slice A m c]).run P w = .ok v' w' ∧ w'.ownsRow base e size v' (n + m) (xs ++ news) ∧ w.grownBy w' v.ownBlock ∧
      (v'.ownBlock = v.ownBlock ∨ v'.ownBlock = some w.heap.size) := by
  by_cases hm : m = 0
  · subst hm
    have hnews : news = [] := List.eq_nil_of_length_eq_zero (by simpa using hr.1)
    subst hnews
    rcases A with _ | ad
    · refine ⟨v, w, ?_, by simpa using hown, World.grownBy.refl w _, .inl rfl⟩
      rcases hown.2 with ⟨rfl, rfl⟩ | ⟨g, cap, cur, rfl, _, _, hnc, _⟩
      · simp [Builtin.append_, run_underlying ht, sizeOf, typeInfo, hi, Builtin.lenOf, Builtin.firstCells]
      · simp [Builtin.append_, run_underlying ht, sizeOf, typeInfo, hi, Builtin.lenOf, Builtin.firstCells, hnc, storeCells]
    · obtain ⟨v', w', hrun, h2, h3, _, h5⟩ := run_append_own_at (P := P) w base t ty e i z size bytes ht hi hz hsize hby hzs hsz v n xs hown ad 0 c [] (by simp) (by simp) (by simp) h63 hbytes hbase
      exact ⟨v', w', hrun, h2, h3, h5⟩
  · obtain ⟨b, off, rfl, _, _, hc⟩ := hr.2 (by omega)
    obtain ⟨v', w', hrun, h2, h3, _, h5⟩ := run_append_own_at (P := P) w base t ty e i z size bytes ht hi hz hsize hby hzs hsz v n xs hown ⟨b, off, none⟩ m c news hr.1
      (fun j u hu => by rw [Addr.add_lit]; exact hc j u hu) h1 h63 hbytes hbase
    exact ⟨v', w', hrun, h2, h3, h5⟩

theorem wp_append_rd {o : Oper} {a : Act} {K : Act → World → Prop} {Q : Exit → Act → World → Prop} (s x : Operand) (t : TypeId)
    (ho : o.op = .call { callee := .builtin .append, args := #[s, x], argTypes := #[t, t] })
    (base : Nat) (e : TypeId) (i : TypeInfo) (z : Value) (size bytes : Nat) (ht : P.underlying t = some (.slice e)) (hi : P.info? e = some i) (hz : i.zero = some z)
    (hsize : i.size = size) (hby : i.bytes = bytes) (hzs : z.cells.size = size) (hsz : 0 < size)
    (v : Value) (n : Nat) (xs : List Value) (hs : a.eval s = v) (hown : w.ownsRow base e size v n xs)
    (L : Nat) (A : Option Addr) (m c : Nat) (news : List Value) (hx : a.eval x = .slice A m c) (hr : Rd w L size A m news) (h1 : ∀ u ∈ news, u.oneCell' = true)
    (h63 : n + m ≤ maxLen) (hbytes : (n + m) * bytes ≤ 140737488355328) (hbase : base ≤ w.heap.size)
    (h : ∀ v' w', w'.ownsRow base e size v' (n + m) (xs ++ news) → w.grownBy w' v.ownBlock → (v'.ownBlock = v.ownBlock ∨ v'.ownBlock = some w.heap.size) → K (a.put o.dst v') w') : o.wp P a w K Q := by
  obtain ⟨v', w', hrun, h2, h3, h4⟩ := run_append_rd (P := P) w base t o.type e i z size bytes ht hi hz hsize hby hzs hsz v n xs hown L A m c news hr h1 h63 hbytes hbase
  unfold Oper.wp execOp
  simp only [ho, resolve, invoke, builtin, Sem.run_bind, Sem.run_pure, Result.andThen_ok, List.map_toArray, List.map_cons, List.map_nil, hs, hx, hrun]
  exact h v' w' h2 h3 h4

theorem wpList_append_rd {ops : Array Oper} {rest : List Oper} {o : Oper} {a : Act} {Q : Exit → Act → World → Prop} (hgd : o.guard = none) (s x : Operand) (t : TypeId)
    (ho : o.op = .call { callee := .builtin .append, args := #[s, x], argTypes := #[t, t] })
    (base : Nat) (e : TypeId) (i : TypeInfo) (z : Value) (size bytes : Nat) (ht : P.underlying t = some (.slice e)) (hi : P.info? e = some i) (hz : i.zero = some z)
    (hsize : i.size = size) (hby : i.bytes = bytes) (hzs : z.cells.size = size) (hsz : 0 < size)
    (v : Value) (n : Nat) (xs : List Value) (hs : a.eval s = v) (hown : w.ownsRow base e size v n xs)
    (L : Nat) (A : Option Addr) (m c : Nat) (news : List Value) (hx : a.eval x = .slice A m c) (hr : Rd w L size A m news) (h1 : ∀ u ∈ news, u.oneCell' = true)
    (h63 : n + m ≤ maxLen) (hbytes : (n + m) * bytes ≤ 140737488355328) (hbase : base ≤ w.heap.size)
    (h : ∀ v' w', w'.ownsRow base e size v' (n + m) (xs ++ news) → w.grownBy w' v.ownBlock → (v'.ownBlock = v.ownBlock ∨ v'.ownBlock = some w.heap.size) → wpList P ops Q rest (a.put o.dst v') w') : wpList P ops Q (o :: rest) a w :=
  wpList_plain hgd fun _ hK => wp_append_rd w s x t ho base e i z size bytes ht hi hz hsize hby hzs hsz v n xs hs hown L A m c news hx hr h1 h63 hbytes hbase fun v' w' h2 h3 h4 => hK _ _ (h v' w' h2 h3 h4)

end

/-- A slice value that reads as n elements, cells xs. -/
def Sl (w : World) (L size : Nat) (v : Value) (n : Nat) (xs : List Value) : Prop := ∃ A c, v = .slice A n c ∧ n ≤ c ∧ c ≤ maxLen ∧ Rd w L size A n xs

def ints (xs : List Int) : List Value := xs.map (Value.int .i64)
theorem ints_one (xs : List Int) : ∀ u ∈ ints xs, u.oneCell' = true := by
  intro u hu
  obtain ⟨x, _, rfl⟩ := List.mem_map.1 hu
  rfl
theorem ints_get {xs : List Int} {j : Nat} {x : Int} (h : xs[j]? = some x) : (ints xs)[j]? = some (.int .i64 x) := by simp [ints, h]

theorem Sl.below {w w' : World} {L size n : Nat} {v : Value} {xs : List Value} (h : Sl w L size v n xs) (hb : Below w.heap.size w w') : Sl w' L size v n xs := by
  obtain ⟨A, c, rfl, h1, h2, h3⟩ := h
  exact ⟨A, c, rfl, h1, h2, h3.below hb⟩
theorem Sl.of_own {w : World} {base : Nat} {e : TypeId} {size n : Nat} {v : Value} {xs : List Value} (h : w.ownsRow base e size v n xs) : Sl w base size v n xs := by
  have h0 := h
  rcases h.2 with ⟨rfl, rfl⟩ | ⟨g, cap, cur, rfl, _, _, hnc, hm, _⟩
  · exact ⟨none, 0, rfl, Nat.le_refl _, Nat.zero_le _, Rd.of_own h0⟩
  · exact ⟨_, cap, rfl, hnc, hm, Rd.of_own h0⟩
theorem below_grown {w w' : World} {row : Option Nat} {B : Nat} (hg : w.grownBy w' row) (hB : B ≤ w.heap.size) (hr : ∀ k, row = some k → B ≤ k) : Below B w w' := (Below.refl _ _).grown hg hB hr


/-- An empty slice with no room, or nil: append onto it makes a new row. -/
def NoRoom (w : World) (base : Nat) (e : TypeId) (v : Value) : Prop := v = .slice none 0 0 ∨ ∃ g, v = .slice (some ⟨g, 0, none⟩) 0 0 ∧ base ≤ g ∧ w.heap[g]? = some (.cells #[] e (0, 0))

theorem NoRoom.own {w : World} {base size : Nat} {e : TypeId} {v : Value} (h : NoRoom w base e v) : w.ownsRow base e size v 0 [] := by
  rcases h with rfl | ⟨g, rfl, hb, hg⟩
  · exact World.ownsRow_nil _ _ _ _
  · exact ⟨by simp, .inr ⟨g, 0, #[], rfl, hb, hg, Nat.le_refl _, by decide, by simp, by simp⟩⟩
theorem NoRoom.nil {w : World} {base : Nat} {e : TypeId} : NoRoom w base e (.slice none 0 0) := .inl rfl
theorem NoRoom.new (w : World) (e : TypeId) (base : Nat) (hb : base ≤ w.heap.size) : NoRoom (w.alloc (.cells #[] e)) base e (.slice (some ⟨w.heap.size, 0, none⟩) 0 0) :=
  .inr ⟨_, rfl, hb, heap_alloc_new w _⟩
theorem NoRoom.below {w w' : World} {base : Nat} {e : TypeId} {v : Value} (h : NoRoom w base e v) (hb : Below w.heap.size w w') : NoRoom w' base e v := by
  rcases h with rfl | ⟨g, rfl, h1, hg⟩
  · exact .inl rfl
  · have hlt : g < w.heap.size := by
      rcases Nat.lt_or_ge g w.heap.size with h | h
      · exact h
      · rw [Array.getElem?_eq_none h] at hg; cases hg
    exact .inr ⟨g, rfl, h1, (hb.block g hlt).trans hg⟩

section
variable {P : Program} (w : World)
end

end Go.Proofs.YtccifbbjbnjcfaaGreatDoor
/-
  An abstract machine for walks: values as data, memory as rows under names. Words, and what they mean of a world.
-/
namespace Go.Proofs.YtccifbbjbnjcfaaGreatDoor
open Go Go.RowKit

/-- What a slot holds, as data. -/
inductive AV where
  | any
  | v (x : Value)
  | sl (sz : Nat) (es : List (List AV))
  | ip (cs : List AV)
  | o (r n : Nat)
  | p (r k off : Nat)
  | q (r lo z n : Nat)
  | fn (f : FuncId) (caps : List AV)
  | agg (cs : List AV)
  | tup (vs : List AV)
  deriving Inhabited

/-- A row of the activation's own: a variable (one element) or a slice's array; 'cl': no cell names a row. -/
structure Row where
  E : TypeId
  sz : Nat
  es : List (List AV)
  cl : Bool

abbrev Hp := List (Nat × Row)
def hget : Hp → Nat → Option Row
  | [], _ => none
  | (k, x) :: l, r => if k = r then some x else hget l r
def hset : Hp → Nat → Row → Hp
  | [], r, x => [(r, x)]
  | (k, y) :: l, r, x => if k = r then (k, x) :: l else (k, y) :: hset l r x
def hdel : Hp → Nat → Hp
  | [], _ => []
  | (k, y) :: l, r => if k = r then hdel l r else (k, y) :: hdel l r

theorem hget_hset (h : Hp) (r : Nat) (x : Row) (q : Nat) : hget (hset h r x) q = if r = q then some x else hget h q := by
  induction h with
  | nil => simp [hset, hget]
  | cons a l ih =>
    obtain ⟨k, y⟩ := a
    simp only [hset]
    by_cases hk : k = r
    · subst hk
      simp only [if_true, hget]
      by_cases hq : k = q <;> simp [hq]
    · simp only [hk, if_false, hget, ih]
      by_cases hq : k = q
      · subst hq; simp [Ne.symm hk]
      · simp [hq]
/-- Data that no row of the activation's own holds: 'lv' are the blocks that may still be written; all of it lies from 'lo' on. -/
inductive C (lv : Nat → Prop) (lo : Nat) (w : World) : AV → Value → Prop
  | any {u} : C lv lo w .any u
  | v {x} : C lv lo w (.v x) x
  | sl {sz es A c} (xs : List Value) (u : Nat → Nat → Value) (hr : Rd w lo sz A es.length xs) (hlv : 0 < es.length → ∀ ad, A = some ad → ¬ lv ad.block)
      (hc : es.length ≤ c) (hm : c ≤ maxLen) (hl : ∀ (k : Nat) e, es[k]? = some e → e.length = sz)
      (hx : ∀ (k : Nat) e (j : Nat), es[k]? = some e → j < e.length → xs[k * sz + j]? = some (u k j) ∧ (u k j).oneCell' = true)
      (hg : ∀ (k : Nat) e (j : Nat) a, es[k]? = some e → e[j]? = some a → C lv lo w a (u k j)) : C lv lo w (.sl sz es) (.slice A es.length c)
  | ip {cs} (b off : Nat) (u : Nat → Value) (hlo : lo ≤ b) (hb : b < w.heap.size) (hlv : ¬ lv b)
      (hx : ∀ j, j < cs.length → w.cell? ⟨b, off + j, none⟩ = some (u j) ∧ (u j).oneCell' = true)
      (hg : ∀ (j : Nat) a, cs[j]? = some a → C lv lo w a (u j)) : C lv lo w (.ip cs) (.pointer (some ⟨b, off, none⟩))
  | fn {f caps} (vs : Array Value) (hs : vs.size = caps.length) (hg : ∀ (j : Nat) a, caps[j]? = some a → C lv lo w a (vs.getD j undef)) : C lv lo w (.fn f caps) (.func (.func f) #[] vs)
  | agg {cs} (vs : Array Value) (hs : vs.size = cs.length) (hg : ∀ (j : Nat) a, cs[j]? = some a → C lv lo w a (vs.getD j undef)) : C lv lo w (.agg cs) (.agg vs)
  | tup {cs} (vs : Array Value) (hs : vs.size = cs.length) (hg : ∀ (j : Nat) a, cs[j]? = some a → C lv lo w a (vs.getD j undef)) : C lv lo w (.tup cs) (.tuple vs)

theorem C.mono {lv lv' : Nat → Prop} {lo lo' : Nat} {w w' : World} {x : AV} {u : Value} (h : C lv lo w x u) (hlo : lo' ≤ lo) (hs : w.heap.size ≤ w'.heap.size)
    (hk : ∀ b, lo ≤ b → b < w.heap.size → ¬ lv b → ¬ lv' b ∧ w'.heap[b]? = w.heap[b]?) : C lv' lo' w' x u := by
  induction h with
  | any => exact .any
  | v => exact .v
  | @sl sz es A c xs u hr hlv hc hm hl hx hg ih =>
    refine .sl xs u ⟨hr.1, fun hn => ?_⟩ (fun hn ad had => ?_) hc hm hl hx ih
    · obtain ⟨b, off, e, h1, h2, h3⟩ := hr.2 hn
      exact ⟨b, off, e, by omega, by omega, fun j v hv => (World.cell?_of_block (hk b h1 h2 (hlv hn _ e)).2).trans (h3 j v hv)⟩
    · obtain ⟨b, off, e, h1, h2, h3⟩ := hr.2 hn
      rw [e] at had
      cases had
      exact (hk b h1 h2 (hlv hn _ e)).1
  | ip b off u h1 hb hlv hx hg ih =>
    exact .ip b off u (by omega) (by omega) (hk b h1 hb hlv).1 (fun j hj => ⟨(World.cell?_of_block (hk b h1 hb hlv).2).trans (hx j hj).1, (hx j hj).2⟩) ih
  | fn vs hs hg ih => exact .fn vs hs ih
  | agg vs hs hg ih => exact .agg vs hs ih
  | tup vs hs hg ih => exact .tup vs hs ih

/-- Where the rows lie; 'fb': further blocks that data must not lie in. -/
structure Loc where
  at_ : Nat → Option (Nat × Nat)
  fb : Nat → Prop
instance : CoeFun Loc (fun _ => Nat → Option (Nat × Nat)) := ⟨Loc.at_⟩
/-- The blocks of the rows. -/
def LiveR (h : Hp) (loc : Loc) (b : Nat) : Prop := ∃ r row c, hget h r = some row ∧ loc r = some (b, c)
def Live (h : Hp) (loc : Loc) (b : Nat) : Prop := LiveR h loc b ∨ loc.fb b
/-- Older blocks: that the call may write ('bk'); that data must not lie in ('fb'); rows that stay where they are ('pin'). -/
structure Lent where
  bk : Nat → Prop
  fb : Nat → Prop
  pin : Nat → Option (Option (Nat × Nat))

/-- What a slot holds, rows by their names. -/
inductive G (h : Hp) (loc : Loc) (w : World) : AV → Value → Prop
  | cl {x u} (hc : C (Live h loc) 0 w x u) : G h loc w x u
  | o {r n row b c} (hr : hget h r = some row) (hl : loc r = some (b, c)) (hn : n ≤ row.es.length) : G h loc w (.o r n) (.slice (some ⟨b, 0, none⟩) n c)
  | onil {r row} (hr : hget h r = some row) (hl : loc r = none) : G h loc w (.o r 0) (.slice none 0 0)
  | p {r k off row b c} (hr : hget h r = some row) (hl : loc r = some (b, c)) : G h loc w (.p r k off) (.pointer (some ⟨b, k * row.sz + off, none⟩))
  | q {r lo z n row b c A c'} (hr : hget h r = some row) (hl : loc r = some (b, c)) (hn : 0 < n → A = some ⟨b, lo * z, none⟩) : G h loc w (.q r lo z n) (.slice A n c')
  | fn {f caps} (vs : Array Value) (hs : vs.size = caps.length) (hg : ∀ (j : Nat) a, caps[j]? = some a → G h loc w a (vs.getD j undef)) : G h loc w (.fn f caps) (.func (.func f) #[] vs)
  | agg {cs} (vs : Array Value) (hs : vs.size = cs.length) (hg : ∀ (j : Nat) a, cs[j]? = some a → G h loc w a (vs.getD j undef)) : G h loc w (.agg cs) (.agg vs)
  | tup {cs} (vs : Array Value) (hs : vs.size = cs.length) (hg : ∀ (j : Nat) a, cs[j]? = some a → G h loc w a (vs.getD j undef)) : G h loc w (.tup cs) (.tuple vs)

/-- Strike a row's name out of a value. -/
def killA (r : Nat) : AV → AV
  | .o q n => if q = r then .any else .o q n
  | .p q k off => if q = r then .any else .p q k off
  | .q q lo z n => if q = r then .any else .q q lo z n
  | .fn f caps => .fn f (caps.map (killA r))
  | .agg cs => .agg (cs.map (killA r))
  | .tup cs => .tup (cs.map (killA r))
  | x => x

/-- From world to world, from heap to heap; the row 'r' may turn or go: its name is struck. -/
theorem G.kill {h h' : Hp} {loc loc' : Loc} {w w' : World} {x : AV} {u : Value} (r : Nat) (hg : G h loc w x u) (hs : w.heap.size ≤ w'.heap.size)
    (hrow : ∀ q row, q ≠ r → hget h q = some row → loc' q = loc q ∧ ∃ row', hget h' q = some row' ∧ row'.sz = row.sz ∧ row.es.length ≤ row'.es.length)
    (hk : ∀ b, b < w.heap.size → ¬ Live h loc b → ¬ Live h' loc' b ∧ w'.heap[b]? = w.heap[b]?) : G h' loc' w' (killA r x) u := by
  induction hg with
  | @cl x u hc =>
    have hc' : C (Live h' loc') 0 w' x u := hc.mono (Nat.le_refl _) hs fun b _ hb hl => hk b hb hl
    clear hrow
    suffices ∀ x u, C (Live h' loc') 0 w' x u → G h' loc' w' (killA r x) u from this x u hc'
    intro x u hc
    induction hc with
    | any => simp only [killA]; exact .cl .any
    | v => simp only [killA]; exact .cl .v
    | sl xs u a1 a2 a3 a4 a5 a6 a7 => simp only [killA]; exact .cl (.sl xs u a1 a2 a3 a4 a5 a6 a7)
    | ip b off u a1 a2 a3 a4 a5 => simp only [killA]; exact .cl (.ip b off u a1 a2 a3 a4 a5)
    | fn vs hs hg ih =>
      simp only [killA]
      refine .fn vs (by simpa using hs) fun j a ha => ?_
      rw [List.getElem?_map] at ha
      obtain ⟨y, hy, rfl⟩ := Option.map_eq_some_iff.1 ha
      exact ih j y hy
    | agg vs hs hg ih =>
      simp only [killA]
      refine .agg vs (by simpa using hs) fun j a ha => ?_
      rw [List.getElem?_map] at ha
      obtain ⟨y, hy, rfl⟩ := Option.map_eq_some_iff.1 ha
      exact ih j y hy
    | tup vs hs hg ih =>
      simp only [killA]
      refine .tup vs (by simpa using hs) fun j a ha => ?_
      rw [List.getElem?_map] at ha
      obtain ⟨y, hy, rfl⟩ := Option.map_eq_some_iff.1 ha
      exact ih j y hy
  | @o q n row b c hr hl hn =>
    simp only [killA]
    by_cases hq : q = r
    · simp only [hq, if_true]; exact .cl .any
    · simp only [hq, if_false]
      obtain ⟨h1, row', h2, h3, h4⟩ := hrow q row hq hr
      exact .o h2 (h1.trans hl) (by omega)
  | @onil q row hr hl =>
    simp only [killA]
    by_cases hq : q = r
    · simp only [hq, if_true]; exact .cl .any
    · simp only [hq, if_false]
      obtain ⟨h1, row', h2, h3, h4⟩ := hrow q row hq hr
      exact .onil h2 (h1.trans hl)
  | @p q k off row b c hr hl =>
    simp only [killA]
    by_cases hq : q = r
    · simp only [hq, if_true]; exact .cl .any
    · simp only [hq, if_false]
      obtain ⟨h1, row', h2, h3, h4⟩ := hrow q row hq hr
      rw [← h3]
      exact .p h2 (h1.trans hl)
  | @q q lo z n row b c A c' hr hl hn =>
    simp only [killA]
    by_cases hq : q = r
    · simp only [hq, if_true]; exact .cl .any
    · simp only [hq, if_false]
      obtain ⟨h1, row', h2, h3, h4⟩ := hrow q row hq hr
      exact .q h2 (h1.trans hl) hn
  | fn vs hs hg ih =>
    simp only [killA]
    refine .fn vs (by simpa using hs) fun j a ha => ?_
    rw [List.getElem?_map] at ha
    obtain ⟨y, hy, rfl⟩ := Option.map_eq_some_iff.1 ha
    exact ih j y hy
  | agg vs hs hg ih =>
    simp only [killA]
    refine .agg vs (by simpa using hs) fun j a ha => ?_
    rw [List.getElem?_map] at ha
    obtain ⟨y, hy, rfl⟩ := Option.map_eq_some_iff.1 ha
    exact ih j y hy
  | tup vs hs hg ih =>
    simp only [killA]
    refine .tup vs (by simpa using hs) fun j a ha => ?_
    rw [List.getElem?_map] at ha
    obtain ⟨y, hy, rfl⟩ := Option.map_eq_some_iff.1 ha
    exact ih j y hy

/-- From world to world, no row goes. -/
theorem G.mono {h h' : Hp} {loc loc' : Loc} {w w' : World} {x : AV} {u : Value} (hg : G h loc w x u) (hs : w.heap.size ≤ w'.heap.size)
    (hrow : ∀ q row, hget h q = some row → loc' q = loc q ∧ ∃ row', hget h' q = some row' ∧ row'.sz = row.sz ∧ row.es.length ≤ row'.es.length)
    (hk : ∀ b, b < w.heap.size → ¬ Live h loc b → ¬ Live h' loc' b ∧ w'.heap[b]? = w.heap[b]?) : G h' loc' w' x u := by
  induction hg with
  | cl hc => exact .cl (hc.mono (Nat.le_refl _) hs fun b _ hb hl => hk b hb hl)
  | @o q n row b c hr hl hn =>
    obtain ⟨h1, row', h2, h3, h4⟩ := hrow q row hr
    exact .o h2 (h1.trans hl) (by omega)
  | @onil q row hr hl =>
    obtain ⟨h1, row', h2, h3, h4⟩ := hrow q row hr
    exact .onil h2 (h1.trans hl)
  | @p q k off row b c hr hl =>
    obtain ⟨h1, row', h2, h3, h4⟩ := hrow q row hr
    rw [← h3]
    exact .p h2 (h1.trans hl)
  | @q q lo z n row b c A c' hr hl hn =>
    obtain ⟨h1, row', h2, h3, h4⟩ := hrow q row hr
    exact .q h2 (h1.trans hl) hn
  | fn vs hs hg ih => exact .fn vs hs ih
  | agg vs hs hg ih => exact .agg vs hs ih
  | tup vs hs hg ih => exact .tup vs hs ih

/-- The slice value of a whole row. -/
def rowVal (loc : Loc) (r n : Nat) : Value :=
  match loc r with
  | none => .slice none 0 0
  | some (b, c) => .slice (some ⟨b, 0, none⟩) n c

/-- A row lies in memory as its data says. -/
def RowOk (h : Hp) (loc : Loc) (w : World) (r : Nat) (row : Row) : Prop :=
  (∀ (k : Nat) e, row.es[k]? = some e → e.length = row.sz) ∧
  ∃ xs : List Value, w.ownsRow 0 row.E row.sz (rowVal loc r row.es.length) row.es.length xs ∧
    ∀ (k : Nat) e (j : Nat) a, row.es[k]? = some e → e[j]? = some a → ∃ u, xs[k * row.sz + j]? = some u ∧ u.oneCell' = true ∧ G h loc w a u ∧ (row.cl = true → C (Live h loc) 0 w a u)

structure AS where
  t : List AV
  h : Hp

/-- A state of the machine stands for a frame and a world. 'w0': the world as the call began; 'lent': older blocks that the call may write. -/
structure Rel (w0 : World) (lent : Lent) (s : AS) (loc : Loc) (a : Act) (w : World) : Prop where
  tsz : a.tmps.size = s.t.length
  tm : ∀ (i : Nat) x, s.t[i]? = some x → G s.h loc w x (a.tmps.getD i undef)
  df : a.defers = []
  rw : ∀ r row, hget s.h r = some row → RowOk s.h loc w r row
  inj : ∀ r r' row row' b c c', hget s.h r = some row → hget s.h r' = some row' → loc r = some (b, c) → loc r' = some (b, c') → r = r'
  own : ∀ r row b c, hget s.h r = some row → loc r = some (b, c) → w0.heap.size ≤ b ∨ lent.bk b
  os : w.os = w0.os
  tape : w.tape = w0.tape
  output : w.output = w0.output
  size : w0.heap.size ≤ w.heap.size
  keep : ∀ b, b < w0.heap.size → ¬ lent.bk b → w.heap[b]? = w0.heap[b]?
  fbe : loc.fb = lent.fb
  fbl : ∀ b, lent.fb b → b < w0.heap.size ∧ ¬ lent.bk b
  pn : ∀ r p, lent.pin r = some p → loc r = p
  pl : ∀ r p, lent.pin r = some p → 500000 ≤ r ∧ r < 600000

end Go.Proofs.YtccifbbjbnjcfaaGreatDoor
/-
  The abstract machine: operations that only compute or read.
-/
namespace Go.Proofs.YtccifbbjbnjcfaaGreatDoor
open Go Go.RowKit

/-- What is used of a type. -/
inductive TD where
  | slice (e : TypeId)
  | struct (fs : List (Nat × TypeId))
  | string
  | int (k : IntKind)
  | bool
  | map (k e : TypeId)
  | array
  | other
structure Ty where
  size : Nat
  bytes : Nat
  desc : TD
  zero : List Value
def tdOf : TypeDesc → TD
  | .slice e => .slice e
  | .struct fs => if fs.toList.all (fun f => decide (f.name ≠ "_")) then .struct (fs.toList.map fun f => (f.offset, f.type)) else .array
  | .string => .string
  | .int k => .int k
  | .bool => .bool
  | .map k e => .map k e
  | .array _ _ => .array
  | _ => .other
def tyOf (P : Program) (t : TypeId) : Option Ty :=
  match P.info? t, P.underlying t with
  | some i, some d => match i.zero with
    | some z => some ⟨i.size, i.bytes, tdOf d, z.cells.toList⟩
    | none => none
  | _, _ => none
theorem tyOf_spec {P : Program} {t : TypeId} {ty : Ty} (h : tyOf P t = some ty) :
    ∃ i d z, P.info? t = some i ∧ P.underlying t = some d ∧ i.zero = some z ∧ i.size = ty.size ∧ i.bytes = ty.bytes ∧ tdOf d = ty.desc ∧ z.cells.toList = ty.zero := by
  unfold tyOf at h
  cases hi : P.info? t with
  | none => simp [hi] at h
  | some i =>
    cases hd : P.underlying t with
    | none => simp [hi, hd] at h
    | some d =>
      cases hz : i.zero with
      | none => simp [hi, hd, hz] at h
      | some z =>
        simp only [hi, hd, hz, Option.some.injEq] at h
        subst h
        exact ⟨i, d, z, rfl, rfl, hz, rfl, rfl, rfl, rfl⟩
theorem tdOf_str (l : Array Field) : tdOf (.struct l) = .array ∨ tdOf (.struct l) = .struct (l.toList.map fun f => (f.offset, f.type)) ∧ ∀ f ∈ l.toList, f.name ≠ "_" := by
  simp only [tdOf]
  split
  · rename_i h
    exact .inr ⟨rfl, fun f hf => by simpa using List.all_eq_true.1 h f hf⟩
  · exact .inl rfl
theorem tdOf_slice {d : TypeDesc} {e : TypeId} (h : tdOf d = .slice e) : d = .slice e := by
  cases d with
  | struct l => rcases tdOf_str l with h1 | ⟨h1, _⟩ <;> rw [h1] at h <;> cases h
  | _ => simp [tdOf] at h; try rw [h]
theorem tdOf_string {d : TypeDesc} (h : tdOf d = .string) : d = .string := by
  cases d with
  | struct l => rcases tdOf_str l with h1 | ⟨h1, _⟩ <;> rw [h1] at h <;> cases h
  | string => rfl
  | _ => simp [tdOf] at h
theorem tdOf_bool {d : TypeDesc} (h : tdOf d = .bool) : d = .bool := by
  cases d with
  | struct l => rcases tdOf_str l with h1 | ⟨h1, _⟩ <;> rw [h1] at h <;> cases h
  | bool => rfl
  | _ => simp [tdOf] at h
theorem tdOf_int {d : TypeDesc} {k : IntKind} (h : tdOf d = .int k) : d = .int k := by
  cases d with
  | struct l => rcases tdOf_str l with h1 | ⟨h1, _⟩ <;> rw [h1] at h <;> cases h
  | _ => simp [tdOf] at h; try rw [h]
theorem tdOf_struct {d : TypeDesc} {fs : List (Nat × TypeId)} (h : tdOf d = .struct fs) : ∃ l : Array Field, d = .struct l ∧ (fs = l.toList.map fun f => (f.offset, f.type)) ∧ ∀ f ∈ l.toList, f.name ≠ "_" := by
  cases d with
  | struct l =>
    rcases tdOf_str l with h1 | ⟨h1, h2⟩
    · rw [h1] at h; cases h
    · rw [h1] at h; cases h; exact ⟨l, rfl, rfl, h2⟩
  | _ => simp [tdOf] at h
def TD.isAgg : TD → Bool
  | .struct _ | .array => true
  | _ => false
theorem isAgg_row (d : TypeDesc) : d.isRow = (tdOf d).isAgg := by
  cases d with
  | struct l => rcases tdOf_str l with h1 | ⟨h1, _⟩ <;> rw [h1] <;> rfl
  | _ => rfl

def getA : List AV → Nat → AV
  | [], _ => .any
  | x :: _, 0 => x
  | _ :: l, n + 1 => getA l n
def setA : List AV → Nat → AV → List AV
  | [], _, _ => []
  | _ :: l, 0, x => x :: l
  | y :: l, n + 1, x => y :: setA l n x
theorem getA_eq : ∀ (l : List AV) (n : Nat), getA l n = (l[n]?).getD .any
  | [], n => by simp [getA]
  | x :: l, 0 => by simp [getA]
  | x :: l, n + 1 => by simp [getA, getA_eq l n]
theorem setA_eq : ∀ (l : List AV) (n : Nat) (x : AV), setA l n x = l.set n x
  | [], n, x => by simp [setA]
  | y :: l, 0, x => by simp [setA]
  | y :: l, n + 1, x => by simp [setA, setA_eq l n x]

def evA (t : List AV) : Operand → AV
  | .tmp i => getA t i
  | .const x => .v x
  | .func f => .fn f []
  | .global g => .v (.pointer (some ⟨g, 0, none⟩))

theorem evA_ok {w0 : World} {lent : Lent} {s : AS} {loc : Loc} {a : Act} {w : World} (h : Rel w0 lent s loc a w) (y : Operand) : G s.h loc w (evA s.t y) (a.eval y) := by
  cases y with
  | tmp i =>
    simp only [evA, Act.eval, getA_eq]
    cases hx : s.t[i]? with
    | none => exact .cl .any
    | some x => exact h.tm i x hx
  | const x => exact .cl .v
  | global g => exact .cl .v
  | func f => exact .fn #[] rfl (fun j a h => by simp at h)

/-- Comparisons, kept shut while the machine runs. -/
def eqI (a b : Int) : Bool := a == b
def ltI (a b : Int) : Bool := decide (a < b)
def leI (a b : Int) : Bool := decide (a ≤ b)
def eqS (a b : ByteArray) : Bool := a.toList == b.toList
def ltS (a b : ByteArray) : Bool := Op.bytesLess a.toList b.toList
/-- Integers and strings. -/
def scBin (bop : BinOp) : Value → Value → Option Value
  | .int k a, .int k' b => if k = k' then
      match bop with
      | .add => some (.int k (k.wrap (a + b)))
      | .sub => some (.int k (k.wrap (a - b)))
      | .mul => some (.int k (k.wrap (a * b)))
      | .quo => if b = 0 then none else some (.int k (k.wrap (a.tdiv b)))
      | .rem => if b = 0 then none else some (.int k (a.tmod b))
      | .eql => some (.bool (eqI a b))
      | .neq => some (.bool (!eqI a b))
      | .lss => some (.bool (ltI a b))
      | .leq => some (.bool (leI a b))
      | .gtr => some (.bool (ltI b a))
      | .geq => some (.bool (leI b a))
      | .xor => some (.int k (bits .xor k a b))
      | _ => none
    else none
  | .string x, .string y =>
      match bop with
      | .add => if x.size + y.size ≤ 9223372036854775807 then some (.string (x ++ y)) else none
      | .eql => some (.bool (eqS x y))
      | .neq => some (.bool (!eqS x y))
      | .lss => some (.bool (ltS x y))
      | .leq => some (.bool (ltS x y || eqS x y))
      | .gtr => some (.bool (!(ltS x y || eqS x y)))
      | .geq => some (.bool (!(ltS x y)))
      | _ => none
  | _, _ => none
theorem scBin_ok {P : Program} {bop : BinOp} {t : TypeId} {x y : Operand} {u v r : Value} (h : scBin bop u v = some r) (w : World) :
    (do eqGuard bop t x y u v; binOp bop t u v : Sem Value).run P w = .ok r w := by
  unfold scBin at h
  split at h
  · split at h
    · rename_i k a k' b hk
      subst hk
      cases bop <;> simp only [Option.some.injEq, reduceCtorEq] at h <;> (try (split at h <;> simp only [Option.some.injEq, reduceCtorEq] at h)) <;> subst h <;>
        simp [eqGuard, binOp, Op.intArith, Op.intDiv, Op.intCmp, intBits_xor, eqI, ltI, leI, *] <;> rfl
    · cases h
  · rename_i a b
    cases bop <;> simp only [Option.some.injEq, reduceCtorEq] at h <;> (try (split at h <;> simp only [Option.some.injEq, reduceCtorEq] at h)) <;> subst h <;>
      simp [eqGuard, binOp, Op.stringOp, eqS, ltS, *] <;> (try rfl)
    · rename_i hh
      omega
  · cases h

/-- The cells that a pointer leads to. -/
def cellsAt (h : Hp) : AV → Option (List AV)
  | .ip cs => some cs
  | .p r k off => (hget h r).bind fun row => (row.es[k]?).map fun e => e.drop off
  | _ => none

theorem row_cells {h : Hp} {loc : Loc} {w : World} {r : Nat} {row : Row} {b c : Nat} (hrow : RowOk h loc w r row) (hl : loc r = some (b, c)) {k : Nat} {e : List AV} (he : row.es[k]? = some e) {j : Nat} {x : AV} (hx : e[j]? = some x) :
    ∃ u, w.cell? ⟨b, k * row.sz + j, none⟩ = some u ∧ u.oneCell' = true ∧ G h loc w x u := by
  obtain ⟨hlen, xs, hown, hcs⟩ := hrow
  obtain ⟨u, h1, h2, h3, _⟩ := hcs k e j x he hx
  refine ⟨u, ?_, h2, h3⟩
  have := hown.cells (g := b) (by simp [rowVal, hl, Value.ownBlock]) _ u h1
  rwa [Addr.add_lit, Nat.zero_add] at this

theorem cellsAt_ok {h : Hp} {loc : Loc} {w : World} {x : AV} {u : Value} {cs : List AV} (hx : G h loc w x u) (hrows : ∀ r row, hget h r = some row → RowOk h loc w r row) (hc : cellsAt h x = some cs) :
    ∃ b off, u = .pointer (some ⟨b, off, none⟩) ∧ ∀ (j : Nat) a, cs[j]? = some a → ∃ v, w.cell? ⟨b, off + j, none⟩ = some v ∧ v.oneCell' = true ∧ G h loc w a v := by
  cases hx with
  | cl hcl =>
    cases hcl <;> simp [cellsAt] at hc
    rename_i cs' b off u hlo hb hlv hx hg
    subst hc
    refine ⟨b, off, rfl, fun j a ha => ⟨u j, (hx j ?_).1, (hx j ?_).2, .cl (hg j a ha)⟩⟩ <;>
    · rcases Nat.lt_or_ge j cs'.length with h1 | h1
      · exact h1
      · rw [List.getElem?_eq_none h1] at ha; cases ha
  | @p r k off row b c hr hl =>
    simp only [cellsAt, hr, Option.bind_some, Option.map_eq_some_iff] at hc
    obtain ⟨e, he, rfl⟩ := hc
    refine ⟨b, k * row.sz + off, rfl, fun j a ha => ?_⟩
    rw [List.getElem?_drop] at ha
    obtain ⟨v, h1, h2, h3⟩ := row_cells (hrows r row hr) hl he ha
    exact ⟨v, by rw [Nat.add_assoc]; exact h1, h2, h3⟩
  | _ => simp [cellsAt] at hc

/-- The values of a list of cells, chosen. -/
theorem choose_vals {p : Nat → AV → Value → Prop} : ∀ (cs : List AV) (n : Nat), (∀ (j : Nat) a, cs[j]? = some a → ∃ v, p (n + j) a v) → ∃ vs : List Value, vs.length = cs.length ∧ ∀ (j : Nat) a, cs[j]? = some a → ∃ v, vs[j]? = some v ∧ p (n + j) a v
  | [], n, _ => ⟨[], rfl, fun j a h => by simp at h⟩
  | x :: cs, n, h => by
    obtain ⟨v, hv⟩ := h 0 x rfl
    obtain ⟨vs, hl, hvs⟩ := choose_vals cs (n + 1) (fun j a ha => by have := h (j + 1) a (by simpa using ha); rwa [show n + 1 + j = n + (j + 1) from by omega])
    refine ⟨v :: vs, by simp [hl], fun j a ha => ?_⟩
    cases j with
    | zero => simp at ha; subst ha; exact ⟨v, rfl, hv⟩
    | succ j =>
      obtain ⟨v', h1, h2⟩ := hvs j a (by simpa using ha)
      exact ⟨v', by simpa using h1, by rwa [show n + (j + 1) = n + 1 + j from by omega]⟩

theorem lt_of_some {α : Type} {l : List α} {k : Nat} {x : α} (hx : l[k]? = some x) : k < l.length := by
  rcases Nat.lt_or_ge k l.length with h1 | h1
  · exact h1
  · rw [List.getElem?_eq_none h1] at hx; cases hx

/-- A load. -/
def ldA (P : Program) (h : Hp) (t : TypeId) (x : AV) : Option AV :=
  match tyOf P t, cellsAt h x with
  | some ty, some cs =>
    if ty.desc.isAgg then (if ty.size ≤ cs.length then some (.agg (cs.take ty.size)) else none)
    else match cs with
      | c :: _ => some c
      | [] => none
  | _, _ => none
theorem ldA_ok {P : Program} {h : Hp} {loc : Loc} {w : World} {t : TypeId} {x y : AV} {u : Value} (hx : G h loc w x u) (hrows : ∀ r row, hget h r = some row → RowOk h loc w r row) (hd : ldA P h t x = some y) :
    ∃ v, (Instr.loadAt t u).run P w = .ok v w ∧ G h loc w y v := by
  unfold ldA at hd
  cases ht : tyOf P t with
  | none => simp [ht] at hd
  | some ty =>
    cases hc : cellsAt h x with
    | none => simp [ht, hc] at hd
    | some cs =>
      obtain ⟨b, off, rfl, hcs⟩ := cellsAt_ok hx hrows hc
      obtain ⟨i, d, z, hi, hud, _, hsz, _, hdd, _⟩ := tyOf_spec ht
      simp only [ht, hc] at hd
      split at hd
      · rename_i hagg
        split at hd
        · rename_i hle
          cases hd
          obtain ⟨vs, hvl, hvs⟩ := choose_vals (p := fun j a v => w.cell? ⟨b, off + j, none⟩ = some v ∧ v.oneCell' = true ∧ G h loc w a v) (cs.take ty.size) 0 (fun j a ha => by
            rw [Nat.zero_add]
            rw [List.getElem?_take] at ha
            split at ha
            · exact hcs j a ha
            · cases ha)
          have hlen : vs.length = ty.size := by rw [hvl, List.length_take]; omega
          refine ⟨.agg vs.toArray, run_loadAt_mid w b off t vs d (fun j v hv => ?_) hud (by rw [isAgg_row, hdd]; exact hagg) (by rw [hi]; simp [hsz, hlen]), .agg _ (by simp [hvl]) fun j a ha => ?_⟩
          · have hj := lt_of_some hv
            obtain ⟨v', h1, h2, _⟩ := hvs j _ (List.getElem?_eq_getElem (by omega))
            rw [hv] at h1
            cases h1
            rwa [Nat.zero_add] at h2
          · obtain ⟨v', h1, _, _, h3⟩ := hvs j a ha
            simpa [Array.getD_eq_getD_getElem?, h1] using h3
        · cases hd
      · rename_i hagg
        split at hd
        · rename_i c rest
          cases hd
          obtain ⟨v, h1, h2, h3⟩ := hcs 0 _ rfl
          refine ⟨v, ?_, h3⟩
          have hag : (isAgg t).run P w = .ok false w := by
            unfold isAgg
            rw [Sem.run_bind, run_underlying hud w]
            have := isAgg_row d
            rw [hdd] at this
            cases d <;> simp_all
          rw [Nat.add_zero] at h1
          simp [Instr.loadAt, Instr.sureAddr, loadVar, hag, load, Sem.run, h1]
        · cases hd

/-- Numbers as places. -/
def toIx (n : Int) (len : Nat) : Option Nat := if 0 ≤ n ∧ n < len then some n.toNat else none

theorem toIx_some {n : Int} {len k : Nat} (h : toIx n len = some k) : 0 ≤ n ∧ n < len ∧ k = n.toNat ∧ k < len := by
  unfold toIx at h
  split at h
  · cases h
    rename_i hh
    exact ⟨hh.1, hh.2, rfl, by omega⟩
  · cases h

/-- The address of an element. -/
def ixA (P : Program) (h : Hp) (t : TypeId) (x i : AV) : Option AV :=
  match tyOf P t, i, x with
  | some ⟨_, _, .slice e, _⟩, .v (.int _ n), .sl sz es =>
    (match tyOf P e with
     | some te => if te.size = sz then (toIx n es.length).bind fun k => (es[k]?).map .ip else none
     | none => none)
  | some ⟨_, _, .slice e, _⟩, .v (.int _ n), .o r m =>
    (match tyOf P e, hget h r with
     | some te, some row => if te.size = row.sz then (toIx n m).map fun k => .p r k 0 else none
     | _, _ => none)
  | _, _, _ => none

theorem run_indexAt_slice {P : Program} {t e : TypeId} {i : TypeInfo} {w : World} {b off len c : Nat} {kd : IntKind} {n : Int} (ht : P.underlying t = some (.slice e)) (hi : P.info? e = some i) (h0 : 0 ≤ n) (hn : n < len) :
    (Instr.indexAt t (.slice (some ⟨b, off, none⟩) len c) (.int kd n)).run P w = .ok (.pointer (some ⟨b, off + n.toNat * i.size, none⟩)) w := by
  simp [Instr.indexAt, asIntOf, run_underlying ht, h0, hn, sizeOf, typeInfo, hi, Addr.add_lit]

theorem ixA_ok {P : Program} {h : Hp} {loc : Loc} {w : World} {t : TypeId} {x i y : AV} {u j : Value} (hx : G h loc w x u) (hi : G h loc w i j) (hd : ixA P h t x i = some y) :
    ∃ v, (Instr.indexAt t u j).run P w = .ok v w ∧ G h loc w y v := by
  unfold ixA at hd
  split at hd
  · rename_i e kd n sz es ht
    split at hd
    · rename_i te hte
      split at hd
      · rename_i hsz
        obtain ⟨i1, d, z, hi1, hud, _, _, _, hdd, _⟩ := tyOf_spec ht
        obtain ⟨i2, d2, z2, hi2, _, _, hsz2, _, _, _⟩ := tyOf_spec hte
        cases hk : toIx n es.length with
        | none => simp [hk] at hd
        | some k =>
          obtain ⟨h0, hn, rfl, hkl⟩ := toIx_some hk
          simp only [hk, Option.bind_some, Option.map_eq_some_iff] at hd
          obtain ⟨e', he', rfl⟩ := hd
          cases hi with
          | cl hci =>
            cases hci
            cases hx with
            | cl hcx =>
              cases hcx with
              | sl xs u hr hlv hc hm hl hxx hg =>
                obtain ⟨b, off, rfl, hlo, hb, hcell⟩ := hr.2 (by omega)
                refine ⟨_, run_indexAt_slice (tdOf_slice hdd ▸ hud) hi2 h0 hn, .cl (.ip b _ (fun q => u n.toNat q) (Nat.zero_le _) hb (hlv (by omega) _ rfl) (fun q hq => ?_) (fun q a ha => hg _ _ q a he' ha))⟩
                obtain ⟨g1, g2⟩ := hxx n.toNat e' q he' hq
                exact ⟨by rw [hsz2, hsz, Nat.add_assoc]; exact hcell _ _ g1, g2⟩
      · cases hd
    · cases hd
  · rename_i e kd n r m ht
    split at hd
    · rename_i te row hte hrow
      split at hd
      · rename_i hsz
        obtain ⟨i1, d, z, hi1, hud, _, _, _, hdd, _⟩ := tyOf_spec ht
        obtain ⟨i2, d2, z2, hi2, _, _, hsz2, _, _, _⟩ := tyOf_spec hte
        cases hk : toIx n m with
        | none => simp [hk] at hd
        | some k =>
          obtain ⟨h0, hn, rfl, hkl⟩ := toIx_some hk
          simp only [hk, Option.map_some, Option.some.injEq] at hd
          subst hd
          cases hi with
          | cl hci =>
            cases hci
            cases hx with
            | cl hcx => cases hcx
            | @o _ _ row' b c hr hl hn' =>
              rw [hrow] at hr
              cases hr
              refine ⟨_, run_indexAt_slice (tdOf_slice hdd ▸ hud) hi2 h0 hn, ?_⟩
              have := G.p (h := h) (loc := loc) (w := w) (k := n.toNat) (off := 0) hrow hl
              rw [hsz2, hsz, Nat.zero_add]
              exact this
            | onil hr hl => exact absurd hkl (by omega)
      · cases hd
    · cases hd
  · cases hd

end Go.Proofs.YtccifbbjbnjcfaaGreatDoor
/-
  The abstract machine: fields, lengths, slices of slices, new rows.
-/
namespace Go.Proofs.YtccifbbjbnjcfaaGreatDoor
open Go Go.RowKit

theorem fields_get {P : Program} {t : TypeId} {ty : Ty} {fs : List (Nat × TypeId)} {f off : Nat} {ft : TypeId} (ht : tyOf P t = some ty) (hd : ty.desc = .struct fs) (hf : fs[f]? = some (off, ft)) :
    ∃ (l : Array Field) (fd : Field), P.underlying t = some (.struct l) ∧ l[f]? = some fd ∧ fd.offset = off ∧ fd.type = ft := by
  obtain ⟨i, d, z, _, hud, _, _, _, hdd, _⟩ := tyOf_spec ht
  obtain ⟨l, rfl, hl, _⟩ := tdOf_struct (hdd.trans hd)
  rw [hl, List.getElem?_map, Option.map_eq_some_iff] at hf
  obtain ⟨fd, h1, h2⟩ := hf
  cases h2
  exact ⟨l, fd, hud, by simpa using h1, rfl, rfl⟩

/-- The address of a field. -/
def faA (P : Program) (s : TypeId) (x : AV) (f : Nat) : Option AV :=
  match tyOf P s with
  | some ⟨_, _, .struct fs, _⟩ =>
    (match fs[f]? with
     | some (off, ft) => (match tyOf P ft with
        | some tf => if tf.size = 0 then none else (match x with
          | .ip cs => some (.ip (cs.drop off))
          | .p r k q => some (.p r k (q + off))
          | _ => none)
        | none => none)
     | none => none)
  | _ => none
theorem faA_ok {P : Program} {h : Hp} {loc : Loc} {w : World} {s : TypeId} {x y : AV} {u : Value} {f : Nat} (hx : G h loc w x u) (hd : faA P s x f = some y) :
    ∃ v, (Instr.fieldAt s u f).run P w = .ok v w ∧ G h loc w y v := by
  unfold faA at hd
  split at hd
  · rename_i fs ht
    split at hd
    · rename_i off ft hf
      split at hd
      · rename_i tf htf
        split at hd
        · cases hd
        · rename_i hsz
          obtain ⟨l, fd, hud, hl, rfl, rfl⟩ := fields_get ht rfl hf
          obtain ⟨i2, d2, z2, hi2, _, _, hs2, _⟩ := tyOf_spec htf
          have hrun : ∀ b o, (Instr.fieldAt s (.pointer (some ⟨b, o, none⟩)) f).run P w = .ok (.pointer (some ⟨b, o + fd.offset, none⟩)) w := by
            intro b o
            have : ¬ i2.size = 0 := by omega
            simp [Instr.fieldAt, run_underlying hud, hl, Instr.sureAddr, fieldPlace, sizeOf, typeInfo, hi2, this, Addr.add_lit]
          split at hd
          · rename_i cs
            cases hd
            cases hx with
            | cl hcx =>
              cases hcx with
              | ip b o u h1 h2 h3 h4 h5 =>
                refine ⟨_, hrun b o, .cl (.ip b _ (fun j => u (fd.offset + j)) h1 h2 h3 (fun j hj => ?_) fun j a ha => ?_)⟩
                · have := h4 (fd.offset + j) (by rw [List.length_drop] at hj; omega)
                  rwa [← Nat.add_assoc] at this
                · rw [List.getElem?_drop] at ha
                  exact h5 _ a ha
          · rename_i r k q
            cases hd
            cases hx with
            | cl hcx => cases hcx
            | @p _ _ _ row b c hr hl' => exact ⟨_, hrun b _, by rw [Nat.add_assoc]; exact .p hr hl'⟩
          · cases hd
      · cases hd
    · cases hd
  · cases hd

/-- A field of a struct value. -/
def fdA (P : Program) (s : TypeId) (x : AV) (f : Nat) : Option AV :=
  match tyOf P s, x with
  | some ⟨_, _, .struct fs, _⟩, .agg cs =>
    (match fs[f]? with
     | some (off, ft) => (match tyOf P ft with
        | some tf => if tf.desc.isAgg then (if off + tf.size ≤ cs.length then some (.agg ((cs.drop off).take tf.size)) else none) else cs[off]?
        | none => none)
     | none => none)
  | _, _ => none
theorem G.agg_inv {h : Hp} {loc : Loc} {w : World} {cs : List AV} {u : Value} (hx : G h loc w (.agg cs) u) :
    ∃ vs : Array Value, u = .agg vs ∧ vs.size = cs.length ∧ ∀ (j : Nat) a, cs[j]? = some a → G h loc w a (vs.getD j undef) := by
  cases hx with
  | cl hc => cases hc with
    | agg vs hs hg => exact ⟨vs, rfl, hs, fun j a ha => .cl (hg j a ha)⟩
  | agg vs hs hg => exact ⟨vs, rfl, hs, hg⟩
theorem G.tup_inv {h : Hp} {loc : Loc} {w : World} {cs : List AV} {u : Value} (hx : G h loc w (.tup cs) u) :
    ∃ vs : Array Value, u = .tuple vs ∧ vs.size = cs.length ∧ ∀ (j : Nat) a, cs[j]? = some a → G h loc w a (vs.getD j undef) := by
  cases hx with
  | cl hc => cases hc with
    | tup vs hs hg => exact ⟨vs, rfl, hs, fun j a ha => .cl (hg j a ha)⟩
  | tup vs hs hg => exact ⟨vs, rfl, hs, hg⟩
theorem G.fn_inv {h : Hp} {loc : Loc} {w : World} {f : FuncId} {cs : List AV} {u : Value} (hx : G h loc w (.fn f cs) u) :
    ∃ vs : Array Value, u = .func (.func f) #[] vs ∧ vs.size = cs.length ∧ ∀ (j : Nat) a, cs[j]? = some a → G h loc w a (vs.getD j undef) := by
  cases hx with
  | cl hc => cases hc with
    | fn vs hs hg => exact ⟨vs, rfl, hs, fun j a ha => .cl (hg j a ha)⟩
  | fn vs hs hg => exact ⟨vs, rfl, hs, hg⟩
theorem fdA_ok {P : Program} {h : Hp} {loc : Loc} {w : World} {s : TypeId} {x y : AV} {u : Value} {f : Nat} (hx : G h loc w x u) (hd : fdA P s x f = some y) :
    ∃ v, (Instr.field s u f).run P w = .ok v w ∧ G h loc w y v := by
  unfold fdA at hd
  split at hd
  · rename_i fs cs ht
    split at hd
    · rename_i off ft hf
      split at hd
      · rename_i tf htf
        obtain ⟨l, fd, hud, hl, rfl, rfl⟩ := fields_get ht rfl hf
        obtain ⟨i2, d2, z2, hi2, hud2, _, hs2, _, hdd2, _⟩ := tyOf_spec htf
        obtain ⟨vs, rfl, hvs, hg⟩ := hx.agg_inv
        have hag : (isAgg fd.type).run P w = .ok tf.desc.isAgg w := by
          unfold isAgg
          rw [Sem.run_bind, run_underlying hud2 w]
          have := isAgg_row d2
          rw [hdd2] at this
          cases d2 <;> simp_all
        split at hd
        · rename_i hagg
          split at hd
          · rename_i hle
            cases hd
            rw [hagg] at hag
            refine ⟨.agg (vs.extract fd.offset (fd.offset + tf.size)), by simp [Instr.field, run_underlying hud, hl, asAgg, part, hag, sizeOf, typeInfo, hi2, hs2], .agg _ ?_ fun j a ha => ?_⟩
            · simp; omega
            · rw [List.getElem?_take] at ha
              split at ha
              · rename_i hj
                rw [List.getElem?_drop] at ha
                have := hg _ a ha
                have hlt := lt_of_some ha
                have e : (vs.extract fd.offset (fd.offset + tf.size)).getD j undef = vs.getD (fd.offset + j) undef := by
                  have h1 : j < (vs.extract fd.offset (fd.offset + tf.size)).size := by simp; omega
                  have h2 : fd.offset + j < vs.size := by omega
                  rw [Array.getD, dif_pos h1, Array.getD, dif_pos h2, Array.getInternal_eq_getElem, Array.getInternal_eq_getElem, Array.getElem_extract]
                rw [e]
                exact this
              · cases ha
          · cases hd
        · rename_i hagg
          have hagg' : tf.desc.isAgg = false := by simpa using hagg
          rw [hagg'] at hag
          have hlt := lt_of_some hd
          have h2 : fd.offset < vs.size := by omega
          refine ⟨vs[fd.offset], by simp [Instr.field, run_underlying hud, hl, asAgg, part, hag, h2], ?_⟩
          have := hg _ y hd
          rwa [Array.getD, dif_pos h2] at this
      · cases hd
    · cases hd
  · cases hd

/-- The length. -/
def lnA (P : Program) (t : TypeId) (x : AV) : Option AV :=
  match tyOf P t, x with
  | some ⟨_, _, .slice _, _⟩, .sl _ es => some (.v (.int .i64 es.length))
  | some ⟨_, _, .slice _, _⟩, .o _ n => some (.v (.int .i64 n))
  | some ⟨_, _, .slice _, _⟩, .v (.slice _ n _) => some (.v (.int .i64 n))
  | some ⟨_, _, .string, _⟩, .v (.string s) => some (.v (.int .i64 s.size))
  | _, _ => none
theorem lnA_ok {P : Program} {h : Hp} {loc : Loc} {w : World} {t ty : TypeId} {x y : AV} {u : Value} (hx : G h loc w x u) (hd : lnA P t x = some y) :
    ∃ v, (Builtin.len_ #[t] ty #[u]).run P w = .ok v w ∧ G h loc w y v := by
  unfold lnA at hd
  split at hd
  · rename_i e sz es ht
    obtain ⟨_, d, _, _, hud, _, _, _, hdd, _⟩ := tyOf_spec ht
    have hud := tdOf_slice hdd ▸ hud
    cases hd
    cases hx with
    | cl hc => cases hc with
      | sl => exact ⟨_, by simp [Builtin.len_, run_underlying hud, goInt], .cl .v⟩
  · rename_i e r n ht
    obtain ⟨_, d, _, _, hud, _, _, _, hdd, _⟩ := tyOf_spec ht
    have hud := tdOf_slice hdd ▸ hud
    cases hd
    cases hx with
    | cl hc => cases hc
    | o => exact ⟨_, by simp [Builtin.len_, run_underlying hud, goInt], .cl .v⟩
    | onil => exact ⟨_, by simp [Builtin.len_, run_underlying hud, goInt], .cl .v⟩
  · rename_i e A n c ht
    obtain ⟨_, d, _, _, hud, _, _, _, hdd, _⟩ := tyOf_spec ht
    have hud := tdOf_slice hdd ▸ hud
    cases hd
    cases hx with
    | cl hc => cases hc with
      | v => exact ⟨_, by simp [Builtin.len_, run_underlying hud, goInt], .cl .v⟩
  · rename_i s ht
    obtain ⟨_, d, _, _, hud, _, _, _, hdd, _⟩ := tyOf_spec ht
    have hud := tdOf_string hdd ▸ hud
    cases hd
    cases hx with
    | cl hc => cases hc with
      | v => exact ⟨_, by simp [Builtin.len_, run_underlying hud, goInt], .cl .v⟩
  · cases hd

/-- Bounds of a slice expression, up to the length. -/
def bdA (len : Nat) (lo hi : Option AV) : Option (Nat × Nat) :=
  match lo, hi with
  | none, none => some (0, len)
  | some (.v (.int _ l)), none => if 0 ≤ l ∧ l ≤ len then some (l.toNat, len) else none
  | none, some (.v (.int _ r)) => if 0 ≤ r ∧ r ≤ len then some (0, r.toNat) else none
  | some (.v (.int _ l)), some (.v (.int _ r)) => if 0 ≤ l ∧ l ≤ r ∧ r ≤ len then some (l.toNat, r.toNat) else none
  | _, _ => none
theorem bdA_le {len l r : Nat} {lo hi : Option AV} (hd : bdA len lo hi = some (l, r)) : l ≤ r ∧ r ≤ len := by
  unfold bdA at hd
  split at hd
  · cases hd; omega
  · split at hd
    · cases hd; omega
    · cases hd
  · split at hd
    · cases hd; omega
    · cases hd
  · split at hd
    · cases hd; omega
    · cases hd
  · cases hd
theorem G.v_inv {h : Hp} {loc : Loc} {w : World} {x u : Value} (hx : G h loc w (.v x) u) : u = x := by
  cases hx with
  | cl hc => cases hc; rfl
theorem bdA_ok {P : Program} {h : Hp} {loc : Loc} {w : World} {len cap l r : Nat} {lo hi : Option AV} {lo' hi' : Option Value} {isS : Bool} (hlo : ∀ x, lo = some x → ∃ u, lo' = some u ∧ G h loc w x u) (hlon : lo = none → lo' = none)
    (hhi : ∀ x, hi = some x → ∃ u, hi' = some u ∧ G h loc w x u) (hhin : hi = none → hi' = none) (hc : len ≤ cap) (hd : bdA len lo hi = some (l, r)) : (Instr.sliceBounds isS len cap lo' hi' none).run P w = .ok (l, r, cap) w := by
  unfold bdA at hd
  split at hd
  · cases hd
    rw [hlon rfl, hhin rfl]
    simp [Instr.sliceBounds]
  · split at hd
    · rename_i k n hh
      cases hd
      obtain ⟨u, rfl, hu⟩ := hlo _ rfl
      rw [hhin rfl, hu.v_inv]
      simp [Instr.sliceBounds, run_sliceBound (P := P) (w := w) k n len .sliceB hh.1 hh.2]
    · cases hd
  · split at hd
    · rename_i k n hh
      cases hd
      obtain ⟨u, rfl, hu⟩ := hhi _ rfl
      rw [hlon rfl, hu.v_inv]
      simp [Instr.sliceBounds, run_sliceBound (P := P) (w := w) k n cap _ hh.1 (Int.le_trans hh.2 (by omega))]
    · cases hd
  · split at hd
    · rename_i k n k' m hh
      cases hd
      obtain ⟨u, rfl, hu⟩ := hlo _ rfl
      obtain ⟨u', rfl, hu'⟩ := hhi _ rfl
      rw [hu.v_inv, hu'.v_inv]
      simp [Instr.sliceBounds, run_sliceBound (P := P) (w := w) k' m cap _ (by omega) (Int.le_trans hh.2.2 (by omega)), run_sliceBound (P := P) (w := w) k n m.toNat .sliceB hh.1 (by omega)]
    · cases hd
  · cases hd

end Go.Proofs.YtccifbbjbnjcfaaGreatDoor
/-
  The abstract machine: slice expressions; new rows; one operation.
-/
namespace Go.Proofs.YtccifbbjbnjcfaaGreatDoor
open Go Go.RowKit

theorem drop_take_get {α : Type} (l : List α) (a b k : Nat) (x : α) (h : ((l.take b).drop a)[k]? = some x) : l[a + k]? = some x ∧ a + k < b := by
  rw [List.getElem?_drop, List.getElem?_take] at h
  split at h
  · exact ⟨h, by omega⟩
  · cases h

/-- A slice expression without a third bound. -/
def slA (P : Program) (t : TypeId) (x : AV) (lo hi : Option AV) : Option AV :=
  match tyOf P t, x with
  | some ⟨_, _, .string, _⟩, .v (.string s) => (bdA s.size lo hi).map fun b => .v (.string (s.extract b.1 b.2))
  | some ⟨_, _, .slice e, _⟩, .sl sz es =>
    (match tyOf P e with
     | some te => if te.size = sz then (bdA es.length lo hi).map fun b => .sl sz ((es.take b.2).drop b.1) else none
     | none => none)
  | some ⟨_, _, .slice e, _⟩, .o r n =>
    (match tyOf P e with
     | some te => (bdA n lo hi).map fun b => if b.1 = 0 then .o r b.2 else .q r b.1 te.size (b.2 - b.1)
     | none => none)
  | _, _ => none
theorem slA_ok {P : Program} {h : Hp} {loc : Loc} {w : World} {t : TypeId} {x y : AV} {u : Value} {lo hi : Option AV} {lo' hi' : Option Value} (hx : G h loc w x u) (hrows : ∀ r row, hget h r = some row → RowOk h loc w r row)
    (hlo : ∀ x, lo = some x → ∃ u, lo' = some u ∧ G h loc w x u) (hlon : lo = none → lo' = none) (hhi : ∀ x, hi = some x → ∃ u, hi' = some u ∧ G h loc w x u) (hhin : hi = none → hi' = none) (hd : slA P t x lo hi = some y) :
    ∃ v, (Instr.sliceAt t u lo' hi' none).run P w = .ok v w ∧ G h loc w y v := by
  unfold slA at hd
  split at hd
  · rename_i s ht
    obtain ⟨_, d, _, _, hud, _, _, _, hdd, _⟩ := tyOf_spec ht
    have hud := tdOf_string hdd ▸ hud
    rw [Option.map_eq_some_iff] at hd
    obtain ⟨⟨l, r⟩, hb, rfl⟩ := hd
    rw [hx.v_inv]
    have := bdA_ok (P := P) (isS := false) (cap := s.size) hlo hlon hhi hhin (Nat.le_refl _) hb
    exact ⟨_, by simp [Instr.sliceAt, Instr.slice, run_underlying hud, this], .cl .v⟩
  · rename_i e sz es ht
    split at hd
    · rename_i te hte
      split at hd
      · rename_i hsz
        obtain ⟨_, d, _, _, hud, _, _, _, hdd, _⟩ := tyOf_spec ht
        obtain ⟨i2, d2, z2, hi2, _, _, hs2, _⟩ := tyOf_spec hte
        have hud := tdOf_slice hdd ▸ hud
        rw [Option.map_eq_some_iff] at hd
        obtain ⟨⟨l, r⟩, hb, rfl⟩ := hd
        have hle := bdA_le hb
        cases hx with
        | cl hc =>
          cases hc with
          | @sl _ _ A c xs u hr hlv hc hm hl hxx hg =>
            have := bdA_ok (P := P) (isS := true) (cap := c) hlo hlon hhi hhin hc hb
            refine ⟨.slice (if c = l then A else A.map (·.add (l * i2.size))) (r - l) (c - l), by simp [Instr.sliceAt, Instr.slice, run_underlying hud, this, sizeOf, typeInfo, hi2], ?_⟩
            have hlen : ((es.take r).drop l).length = r - l := by rw [List.length_drop, List.length_take]; omega
            have hdt : ∀ (k : Nat) e', ((es.take r).drop l)[k]? = some e' → es[l + k]? = some e' ∧ l + k < r := fun k e' => drop_take_get es l r k e'
            have key : C (Live h loc) 0 w (.sl sz ((es.take r).drop l)) (.slice (if c = l then A else A.map (·.add (l * i2.size))) ((es.take r).drop l).length (c - l)) := by
              refine .sl ((xs.take (r * sz)).drop (l * sz)) (fun k j => u (l + k) j) ⟨?_, fun hn => ?_⟩ (fun hn ad had => ?_) (by omega) (by omega) (fun k e' he' => hl _ e' (hdt k e' he').1) (fun k e' j he' hj => ?_) (fun k e' j a he' ha => hg _ e' j a (hdt k e' he').1 ha)
              · have h1 := hr.1
                have h2 : r * sz ≤ xs.length := by rw [h1]; exact Nat.mul_le_mul_right _ hle.2
                rw [List.length_drop, List.length_take, hlen, Nat.sub_mul]
                omega
              · rw [hlen] at hn
                obtain ⟨b, off, rfl, h1, h2, h3⟩ := hr.2 (by omega)
                have hcl : ¬ c = l := by omega
                refine ⟨b, off + l * sz, by simp [hcl, Addr.add_lit, hs2, hsz], h1, h2, fun j v hv => ?_⟩
                obtain ⟨g1, _⟩ := drop_take_get xs _ _ _ _ hv
                rw [Nat.add_assoc]
                exact h3 _ v g1
              · rw [hlen] at hn
                obtain ⟨b, off, rfl, h1, h2, h3⟩ := hr.2 (by omega)
                have hcl : ¬ c = l := by omega
                simp [hcl, Addr.add_lit] at had
                subst had
                exact hlv (by omega) ⟨b, off, none⟩ rfl
              · obtain ⟨g1, g2⟩ := hdt k e' he'
                obtain ⟨h1, h2⟩ := hxx _ e' j g1 hj
                refine ⟨?_, h2⟩
                rw [List.getElem?_drop, List.getElem?_take, if_pos]
                · rw [← h1]; congr 1; rw [Nat.add_mul]; omega
                · have := hl _ e' g1
                  have : (l + k + 1) * sz ≤ r * sz := Nat.mul_le_mul_right _ (by omega)
                  rw [Nat.add_mul, Nat.add_mul] at this
                  omega
            rw [hlen] at key
            exact .cl key
      · cases hd
    · cases hd
  · rename_i e z r n ht
    split at hd
    · rename_i te hte
      obtain ⟨_, d, _, _, hud, _, _, _, hdd, _⟩ := tyOf_spec ht
      have hud := tdOf_slice hdd ▸ hud
      obtain ⟨i2, d2, z2, hi2, _, _, hs2, _⟩ := tyOf_spec hte
      rw [Option.map_eq_some_iff] at hd
      obtain ⟨⟨l, m⟩, hb, hd⟩ := hd
      have hle := bdA_le hb
      simp only at hd hle
      split at hd
      · rename_i hl0
        cases hd
        subst hl0
        cases hx with
        | cl hc => cases hc
        | @o _ _ row b c hr hl hn =>
          have hcap : row.es.length ≤ c := by
            obtain ⟨_, xs, hown, _⟩ := hrows r row hr
            simp only [rowVal, hl] at hown
            rcases hown.2 with ⟨e1, _⟩ | ⟨g, cap, cur, e1, _, _, h5, _⟩
            · cases e1
            · cases e1; exact h5
          have := bdA_ok (P := P) (isS := true) (cap := c) hlo hlon hhi hhin (by omega) hb
          refine ⟨.slice (some ⟨b, 0, none⟩) m c, ?_, .o hr hl (by omega)⟩
          simp [Instr.sliceAt, Instr.slice, run_underlying hud, this, sizeOf, typeInfo, hi2, Addr.add]
        | onil hr hl =>
          have := bdA_ok (P := P) (isS := true) (cap := 0) hlo hlon hhi hhin (Nat.le_refl _) hb
          have hm : m = 0 := by omega
          subst hm
          exact ⟨.slice none 0 0, by simp [Instr.sliceAt, Instr.slice, run_underlying hud, this, sizeOf, typeInfo, hi2], .onil hr hl⟩
      · rename_i hl0
        cases hd
        cases hx with
        | cl hc => cases hc
        | @o _ _ row b c hr hl hn =>
          have hcap : row.es.length ≤ c := by
            obtain ⟨_, xs, hown, _⟩ := hrows r row hr
            simp only [rowVal, hl] at hown
            rcases hown.2 with ⟨e1, _⟩ | ⟨g, cap, cur, e1, _, _, h5, _⟩
            · cases e1
            · cases e1; exact h5
          have := bdA_ok (P := P) (isS := true) (cap := c) hlo hlon hhi hhin (by omega) hb
          have key : G h loc w (.q r l te.size (m - l)) (.slice (if c = l then some ⟨b, 0, none⟩ else (some (⟨b, 0, none⟩ : Addr)).map (·.add (l * i2.size))) (m - l) (c - l)) := by
            refine G.q (row := row) (b := b) (c := c) hr hl fun h0 => ?_
            have hcl : ¬ c = l := by omega
            rw [if_neg hcl]
            simp only [Option.map_some, Addr.add_lit, Nat.zero_add, hs2]
          exact ⟨_, by simp [Instr.sliceAt, Instr.slice, run_underlying hud, this, sizeOf, typeInfo, hi2], key⟩
        | onil hr hl => omega
    · cases hd
  · cases hd

/-- Surely one cell. -/
def one : AV → Bool
  | .v x => x.oneCell'
  | .any | .agg _ | .tup _ => false
  | _ => true
theorem one_ok {h : Hp} {loc : Loc} {w : World} {x : AV} {u : Value} (ho : one x = true) (hx : G h loc w x u) : u.oneCell' = true := by
  cases hx with
  | cl hc =>
    cases hc with
    | v => exact ho
    | _ => first | rfl | (simp [one] at ho)
  | agg => simp [one] at ho
  | tup => simp [one] at ho
  | _ => rfl
/-- The cells of a value that is stored. -/
def clA : AV → Option (List AV)
  | .agg cs => if cs.all one then some cs else none
  | x => if one x then some [x] else none
theorem clA_ok {h : Hp} {loc : Loc} {w : World} {x : AV} {u : Value} {cs : List AV} (hx : G h loc w x u) (hc : clA x = some cs) :
    u.cells.size = cs.length ∧ (∀ (j : Nat) a, cs[j]? = some a → ∃ v, u.cells[j]? = some v ∧ v.oneCell' = true ∧ G h loc w a v) ∧ (∀ v ∈ u.cells, v.oneCell' = true) := by
  have scalar : one x = true → cs = [x] → u.cells = #[u] → u.cells.size = cs.length ∧ (∀ (j : Nat) a, cs[j]? = some a → ∃ v, u.cells[j]? = some v ∧ v.oneCell' = true ∧ G h loc w a v) ∧ (∀ v ∈ u.cells, v.oneCell' = true) := by
    rintro ho rfl hu
    rw [hu]
    refine ⟨rfl, fun j a ha => ?_, fun v hv => by simp at hv; rw [hv]; exact one_ok ho hx⟩
    cases j with
    | zero => simp at ha; subst ha; exact ⟨u, rfl, one_ok ho hx, hx⟩
    | succ j => simp at ha
  have hcell : u.oneCell' = true → u.cells = #[u] := by cases u <;> simp [Value.oneCell', Value.cells]
  cases x with
  | agg l =>
    simp only [clA] at hc
    split at hc
    · rename_i hall
      cases hc
      obtain ⟨vs, rfl, hs, hg⟩ := hx.agg_inv
      have hcell : ∀ (j : Nat) a, cs[j]? = some a → (vs.getD j undef).oneCell' = true := fun j a ha => one_ok (List.all_eq_true.1 hall a (List.mem_of_getElem? ha)) (hg j a ha)
      refine ⟨hs, fun j a ha => ?_, fun v hv => ?_⟩
      · have hj : j < vs.size := by have := lt_of_some ha; omega
        refine ⟨vs.getD j undef, ?_, hcell j a ha, hg j a ha⟩
        simp [Value.cells, Array.getD, hj]
      · simp only [Value.cells] at hv
        obtain ⟨j, hj, rfl⟩ := Array.getElem_of_mem hv
        have := hcell j _ (List.getElem?_eq_getElem (by omega))
        simpa [Array.getD, hj] using this
    · cases hc
  | _ =>
    simp only [clA] at hc
    split at hc
    · rename_i ho
      cases hc
      exact scalar ho rfl (hcell (one_ok ho hx))
    · cases hc

/-- No row is named. -/
def isC : AV → Bool
  | .any | .v _ | .sl _ _ | .ip _ => true
  | _ => false
/-- A row just laid. -/
def NewRow (h : Hp) (loc : Loc) (w : World) (row : Row) (cs : Array Value) : Prop :=
  (row.cl = true → ∀ e ∈ row.es, ∀ x ∈ e, isC x = true) ∧ cs.size = row.es.length * row.sz ∧ (∀ (k : Nat) e, row.es[k]? = some e → e.length = row.sz) ∧
    ∀ (k : Nat) e (j : Nat) a, row.es[k]? = some e → e[j]? = some a → ∃ u, cs[k * row.sz + j]? = some u ∧ u.oneCell' = true ∧ G h loc w a u

theorem NewRow.single {h : Hp} {loc : Loc} {w : World} {E : TypeId} {cs : List AV} {vs : Array Value} (hs : vs.size = cs.length)
    (hg : ∀ (j : Nat) a, cs[j]? = some a → ∃ v, vs[j]? = some v ∧ v.oneCell' = true ∧ G h loc w a v) : NewRow h loc w ⟨E, cs.length, [cs], cs.all isC⟩ vs := by
  refine ⟨fun hc e he x hx => by rw [List.mem_singleton] at he; subst he; exact List.all_eq_true.1 hc x hx, by simp [hs], fun k e he => ?_, fun k e j a he ha => ?_⟩
  · cases k with
    | zero => simp at he; rw [he]
    | succ k => simp at he
  · cases k with
    | zero => simp at he; subst he; simpa using hg j a ha
    | succ k => simp at he

/-- A new variable with a value. -/
def bxA (t : TypeId) (x : AV) : Option Row :=
  match clA x with
  | some cs => some ⟨t, cs.length, [cs], cs.all isC⟩
  | none => none
theorem bxA_ok {P : Program} {h : Hp} {loc : Loc} {w : World} {t : TypeId} {x : AV} {u : Value} {row : Row} (hx : G h loc w x u) (hd : bxA t x = some row) :
    (Instr.box t u).run P w = .ok (.pointer (some ⟨w.heap.size, 0, none⟩)) (w.alloc (.cells u.cells row.E)) ∧ NewRow h loc w row u.cells ∧ row.es.length = 1 := by
  unfold bxA at hd
  split at hd
  · rename_i cs hc
    cases hd
    obtain ⟨h1, h2, _⟩ := clA_ok hx hc
    refine ⟨?_, NewRow.single h1 h2, rfl⟩
    simp [Instr.box, newVar, newRow]
  · cases hd
/-- A new variable of zero. -/
def alA (P : Program) (t : TypeId) : Option Row :=
  match tyOf P t with
  | some ty => if ty.zero.all (·.oneCell') then some ⟨t, (ty.zero.map AV.v).length, [ty.zero.map .v], true⟩ else none
  | none => none
theorem alA_ok {P : Program} {h : Hp} {loc : Loc} {w : World} {t : TypeId} {row : Row} (hd : alA P t = some row) :
    ∃ cs, (Instr.alloc t true (.tuple #[])).run P w = .ok (.pointer (some ⟨w.heap.size, 0, none⟩)) (w.alloc (.cells cs row.E)) ∧ NewRow h loc w row cs ∧ row.es.length = 1 := by
  unfold alA at hd
  split at hd
  · rename_i ty ht
    split at hd
    · rename_i hall
      cases hd
      obtain ⟨i, d, z, hi, _, hz, _, _, _, hzz⟩ := tyOf_spec ht
      have hall2 : (ty.zero.map AV.v).all isC = true := by
        rw [List.all_eq_true]
        intro x hx
        obtain ⟨v, _, rfl⟩ := List.mem_map.1 hx
        rfl
      have hnr : NewRow h loc w ⟨t, (ty.zero.map AV.v).length, [ty.zero.map .v], (ty.zero.map AV.v).all isC⟩ z.cells := NewRow.single (by rw [← hzz]; simp) (fun j a ha => ?_)
      rw [hall2] at hnr
      refine ⟨z.cells, ?_, hnr, rfl⟩
      · simp [Instr.alloc, zeroValue, typeInfo, hi, hz, newVar, newRow]
      · rw [List.getElem?_map, Option.map_eq_some_iff] at ha
        obtain ⟨v, hv, rfl⟩ := ha
        refine ⟨v, ?_, List.all_eq_true.1 hall v (List.mem_of_getElem? hv), .cl .v⟩
        rw [← hzz] at hv
        simpa using hv
    · cases hd
  · cases hd

end Go.Proofs.YtccifbbjbnjcfaaGreatDoor
/-
  The abstract machine: literals of structs and slices; scalar operations; one operation that makes no call.
-/
namespace Go.Proofs.YtccifbbjbnjcfaaGreatDoor
open Go Go.RowKit

theorem foldl_set_get (off : Nat) : ∀ (l : List Value) (n : Nat) (cs : Array Value) (q : Nat), off + n + l.length ≤ cs.size →
    ((l.zipIdx n).foldl (fun (cs : Array Value) (x : Value × Nat) => cs.setIfInBounds (off + x.2) x.1) cs)[q]? = if off + n ≤ q ∧ q < off + n + l.length then l[q - (off + n)]? else cs[q]?
  | [], n, cs, q, _ => by
    have : ¬ (off + n ≤ q ∧ q < off + n + ([] : List Value).length) := by simp only [List.length_nil]; omega
    rw [if_neg this]
    rfl
  | v :: l, n, cs, q, hl => by
    simp only [List.length_cons] at hl
    rw [List.zipIdx_cons, List.foldl_cons, foldl_set_get off l (n + 1) _ q (by simp only [Array.size_setIfInBounds]; omega)]
    simp only [List.length_cons]
    by_cases h1 : off + (n + 1) ≤ q ∧ q < off + (n + 1) + l.length
    · rw [if_pos h1, if_pos ⟨by omega, by omega⟩, show q - (off + n) = (q - (off + (n + 1))) + 1 from by omega, List.getElem?_cons_succ]
    · rw [if_neg h1, Array.getElem?_setIfInBounds]
      by_cases h2 : off + n = q
      · subst h2
        have h3 : off + n < cs.size := by omega
        rw [if_pos rfl, if_pos h3, if_pos ⟨Nat.le_refl _, by omega⟩]
        simp
      · rw [if_neg h2, if_neg (by omega)]
theorem fill_one (v : Value) (off : Nat) (cs : Array Value) (q : Nat) (h : off + v.cells.size ≤ cs.size) :
    (v.cells.zipIdx.foldl (fun (cs : Array Value) (x : Value × Nat) => cs.setIfInBounds (off + x.2) x.1) cs)[q]? = if off ≤ q ∧ q < off + v.cells.size then v.cells[q - off]? else cs[q]? := by
  have := foldl_set_get off v.cells.toList 0 cs q (by simpa using h)
  rw [← Array.foldl_toList, Array.toList_zipIdx]
  simpa using this
theorem fill_size (v : Value) (off : Nat) (cs : Array Value) : (v.cells.zipIdx.foldl (fun (cs : Array Value) (x : Value × Nat) => cs.setIfInBounds (off + x.2) x.1) cs).size = cs.size := by
  rw [← Array.foldl_toList]
  generalize v.cells.zipIdx.toList = l
  induction l generalizing cs with
  | nil => rfl
  | cons a l ih => rw [List.foldl_cons, ih]; simp

/-- Cells put in at a place. -/
def spl (cs : List AV) (off : Nat) (new : List AV) : List AV := cs.take off ++ (new ++ cs.drop (off + new.length))
theorem spl_len (cs new : List AV) (off : Nat) (h : off + new.length ≤ cs.length) : (spl cs off new).length = cs.length := by simp [spl]; omega
theorem spl_get (cs new : List AV) (off q : Nat) (h : off + new.length ≤ cs.length) : (spl cs off new)[q]? = if off ≤ q ∧ q < off + new.length then new[q - off]? else cs[q]? := by
  unfold spl
  by_cases h1 : q < off
  · rw [List.getElem?_append_left (by simp; omega), List.getElem?_take, if_pos h1, if_neg (by omega)]
  · rw [List.getElem?_append_right (by simp; omega)]
    have e : (cs.take off).length = off := by simp; omega
    rw [e]
    by_cases h2 : q - off < new.length
    · rw [List.getElem?_append_left h2, if_pos ⟨by omega, by omega⟩]
    · rw [List.getElem?_append_right (by omega), List.getElem?_drop, if_neg (by omega)]
      congr 1
      omega

/-- The literal of a struct: part by part. -/
def bldA (P : Program) (fs : List (Nat × TypeId)) (ρ : Operand → AV) : List AV → List (Nat × Operand) → Option (List AV)
  | cs, [] => some cs
  | cs, (i, y) :: r =>
    match fs[i]?, clA (ρ y) with
    | some (off, ft), some new => (match tyOf P ft with
        | some tf => if tf.size = new.length then (if off + new.length ≤ cs.length then bldA P fs ρ (spl cs off new) r else none) else none
        | none => none)
    | _, _ => none
theorem bldA_ok {P : Program} {h : Hp} {loc : Loc} {w : World} {fs : List (Nat × TypeId)} {place : Nat → Option (Nat × Nat)} {ρ : Operand → AV} {ev : Operand → Value}
    (hp : ∀ i off ft tf, fs[i]? = some (off, ft) → tyOf P ft = some tf → place i = some (off, tf.size)) :
    ∀ (parts : List (Nat × Operand)) (cs out : List AV) (vs : Array Value), (∀ x ∈ parts, G h loc w (ρ x.2) (ev x.2)) → vs.size = cs.length →
      (∀ (j : Nat) a, cs[j]? = some a → G h loc w a (vs.getD j undef)) → bldA P fs ρ cs parts = some out →
      ∃ us, Instr.fill place vs (parts.map fun (i, x) => (i, ev x)) = some us ∧ us.size = out.length ∧ ∀ (j : Nat) a, out[j]? = some a → G h loc w a (us.getD j undef)
  | [], cs, out, vs, hf, hs, hg, hd => by
    simp only [bldA, Option.some.injEq] at hd
    subst hd
    exact ⟨vs, rfl, hs, hg⟩
  | (i, y) :: r, cs, out, vs, hf, hs, hg, hd => by
    have hxu : G h loc w (ρ y) (ev y) := hf (i, y) (List.mem_cons_self ..)
    simp only [bldA] at hd
    split at hd
    · rename_i off ft new hfi hcl
      split at hd
      · rename_i tf htf
        split at hd
        · rename_i hsz
          split at hd
          · rename_i hle
            obtain ⟨hc1, hc2, _⟩ := clA_ok hxu hcl
            simp only [List.map_cons, Instr.fill, hp _ off ft tf hfi htf]
            rw [if_neg (by simp; omega)]
            refine bldA_ok hp r _ out _ (fun x hx => hf x (List.mem_cons_of_mem _ hx)) (by rw [fill_size, spl_len _ _ _ hle]; exact hs) (fun j a ha => ?_) hd
            rw [spl_get _ _ _ _ hle] at ha
            have hfo := fill_one (ev y) off vs j (by omega)
            rw [Array.getD_eq_getD_getElem?, hfo, hc1]
            split at ha
            · rename_i hj
              rw [if_pos hj]
              obtain ⟨v, g1, _, g3⟩ := hc2 _ a ha
              rw [g1]
              exact g3
            · rename_i hj
              rw [if_neg hj]
              have := hg j a ha
              rwa [Array.getD_eq_getD_getElem?] at this
          · cases hd
        · cases hd
      · cases hd
    · cases hd

theorem mapM_pure {P : Program} {α β : Type} (f : α → Sem β) (g : α → β) (w : World) : ∀ (l : List α), (∀ x ∈ l, (f x).run P w = .ok (g x) w) → (l.mapM f).run P w = .ok (l.map g) w
  | [], _ => by simp
  | x :: l, h => by
    rw [List.mapM_cons]
    simp only [Sem.run_bind, h x (List.mem_cons_self ..), Result.andThen_ok, mapM_pure f g w l (fun y hy => h y (List.mem_cons_of_mem _ hy))]
    rfl

/-- A struct's literal. -/
def bsA (P : Program) (t : TypeId) (ρ : Operand → AV) (parts : List (Nat × Operand)) : Option AV :=
  match tyOf P t with
  | some ⟨_, _, .struct fs, z⟩ => if fs.all (fun f => (tyOf P f.2).isSome) then (bldA P fs ρ (z.map .v) parts).map .agg else none
  | _ => none
theorem bsA_ok {P : Program} {h : Hp} {loc : Loc} {w : World} {t : TypeId} {ρ : Operand → AV} {ev : Operand → Value} {parts : Array (Nat × Operand)} {y : AV}
    (hf : ∀ x ∈ parts.toList, G h loc w (ρ x.2) (ev x.2)) (hd : bsA P t ρ parts.toList = some y) :
    ∃ v, (Instr.build t (parts.map fun (i, x) => (i, ev x))).run P w = .ok v w ∧ G h loc w y v := by
  unfold bsA at hd
  split at hd
  · rename_i fs z ht
    split at hd
    · rename_i hall
      rw [Option.map_eq_some_iff] at hd
      obtain ⟨out, hb, rfl⟩ := hd
      obtain ⟨i, d, zv, hi, hud, hz, _, _, hdd, hzz⟩ := tyOf_spec ht
      obtain ⟨l, rfl, rfl, _⟩ := tdOf_struct hdd
      simp only at hzz
      have hmap : (l.mapM (fun f => do pure (f.offset, ← sizeOf f.type) : Field → Sem (Nat × Nat))).run P w = .ok (l.map fun f => (f.offset, P.cellsOf f.type)) w := by
        have := mapM_pure (P := P) (fun f => do pure (f.offset, ← sizeOf f.type) : Field → Sem (Nat × Nat)) (fun f => (f.offset, P.cellsOf f.type)) w l.toList (fun f hf => by
          have h1 := List.all_eq_true.1 hall (f.offset, f.type) (List.mem_map.2 ⟨f, hf, rfl⟩)
          obtain ⟨tf, htf⟩ := Option.isSome_iff_exists.1 h1
          obtain ⟨i2, _, _, hi2, _, _, _⟩ := tyOf_spec htf
          simp [sizeOf, typeInfo, hi2, Program.cellsOf])
        rw [Array.mapM_eq_mapM_toList]
        show Sem.run P (List.mapM _ _ >>= fun x => pure x.toArray) w = _
        rw [Sem.run_bind, this]
        simp only [Result.andThen_ok, Sem.run_pure]
        congr 1
        apply Array.ext'
        simp
      obtain ⟨us, h1, h2, h3⟩ := bldA_ok (P := P) (h := h) (loc := loc) (w := w) (place := fun i => (l.map fun f => (f.offset, P.cellsOf f.type))[i]?) (ρ := ρ) (ev := ev) (fun i off ft tf hfi htf => by
        rw [List.getElem?_map, Option.map_eq_some_iff] at hfi
        obtain ⟨fd, g1, g2⟩ := hfi
        cases g2
        obtain ⟨i2, _, _, hi2, _, _, hs2, _⟩ := tyOf_spec htf
        have g1' : l[i]? = some fd := by simpa using g1
        simp [g1', Program.cellsOf, hi2, hs2]) parts.toList _ out zv.cells hf (by rw [← hzz]; simp) (fun j a ha => by
          rw [List.getElem?_map, Option.map_eq_some_iff] at ha
          obtain ⟨v, hv, rfl⟩ := ha
          rw [← hzz] at hv
          have : zv.cells[j]? = some v := by simpa using hv
          rw [Array.getD_eq_getD_getElem?, this]
          exact .cl .v) hb
      refine ⟨.agg us, ?_, .agg us h2 h3⟩
      have hzr : (zeroValue t).run P w = .ok zv w := by simp [zeroValue, typeInfo, hi, hz]
      simp only [Instr.build, Sem.run_bind, hzr, Result.andThen_ok, run_underlying hud, hmap, Array.toList_map]
      rw [h1]
      simp
    · cases hd
  · cases hd

/-- The elements of a slice's literal. -/
def belA (ρ : Operand → AV) (sz : Nat) : List (List AV) → List (Nat × Operand) → Option (List (List AV))
  | es, [] => some es
  | es, (i, y) :: r =>
    match clA (ρ y) with
    | some new => if new.length = sz then (if i < es.length then belA ρ sz (es.set i new) r else none) else none
    | none => none
theorem belA_ok {h : Hp} {loc : Loc} {w : World} {sz : Nat} {ρ : Operand → AV} {ev : Operand → Value} :
    ∀ (parts : List (Nat × Operand)) (es out : List (List AV)) (vs : Array Value), (∀ x ∈ parts, G h loc w (ρ x.2) (ev x.2)) → vs.size = es.length * sz → (∀ (k : Nat) e, es[k]? = some e → e.length = sz) →
      (∀ (k : Nat) e (j : Nat) a, es[k]? = some e → e[j]? = some a → ∃ u, vs[k * sz + j]? = some u ∧ u.oneCell' = true ∧ G h loc w a u) → belA ρ sz es parts = some out →
      ∃ us, Instr.fill (fun i => some (i * sz, sz)) vs (parts.map fun (i, x) => (i, ev x)) = some us ∧ us.size = es.length * sz ∧ out.length = es.length ∧ (∀ (k : Nat) e, out[k]? = some e → e.length = sz) ∧
        ∀ (k : Nat) e (j : Nat) a, out[k]? = some e → e[j]? = some a → ∃ u, us[k * sz + j]? = some u ∧ u.oneCell' = true ∧ G h loc w a u
  | [], es, out, vs, hf, hs, hl, hg, hd => by
    simp only [belA, Option.some.injEq] at hd
    subst hd
    exact ⟨vs, rfl, hs, rfl, hl, hg⟩
  | (i, y) :: r, es, out, vs, hf, hs, hl, hg, hd => by
    have hxu : G h loc w (ρ y) (ev y) := hf (i, y) (List.mem_cons_self ..)
    simp only [belA] at hd
    split at hd
    · rename_i new hcl
      split at hd
      · rename_i hsz
        split at hd
        · rename_i hi
          obtain ⟨hc1, hc2, _⟩ := clA_ok hxu hcl
          have hle : i * sz + sz ≤ es.length * sz := by have := Nat.mul_le_mul_right sz (show i + 1 ≤ es.length from hi); rw [Nat.add_mul] at this; omega
          simp only [List.map_cons, Instr.fill]
          rw [if_neg (by simp; omega)]
          obtain ⟨us, g1, g2, g3, g4⟩ := belA_ok r _ out (vs := (ev y).cells.zipIdx.foldl (fun (cs : Array Value) (x : Value × Nat) => cs.setIfInBounds (i * sz + x.2) x.1) vs) (fun x hx => hf x (List.mem_cons_of_mem _ hx)) (by rw [fill_size, List.length_set]; exact hs) (fun k e he => by
              by_cases hik : i = k
              · subst hik
                rw [List.getElem?_set_self hi] at he
                cases he; exact hsz
              · rw [List.getElem?_set_ne hik] at he
                exact hl k e he) (fun k e j a he ha => by
              have hfo := fill_one (ev y) (i * sz) vs (k * sz + j) (by omega)
              by_cases hik : i = k
              · subst hik
                rw [List.getElem?_set_self hi] at he
                cases he
                have hj := lt_of_some ha
                rw [hfo, if_pos ⟨by omega, by omega⟩, show i * sz + j - i * sz = j from by omega]
                exact hc2 j a ha
              · rw [List.getElem?_set_ne hik] at he
                have hj := lt_of_some ha
                have hkl := hl k e he
                rw [hfo, if_neg]
                · exact hg k e j a he ha
                · rintro ⟨h1, h2⟩
                  rcases Nat.lt_or_ge k i with h3 | h3
                  · have := Nat.mul_le_mul_right sz (show k + 1 ≤ i from h3)
                    rw [Nat.add_mul] at this
                    omega
                  · have := Nat.mul_le_mul_right sz (show i + 1 ≤ k by omega)
                    rw [Nat.add_mul] at this
                    omega) hd
          rw [List.length_set] at g2 g3
          exact ⟨us, g1, g2, g3, g4⟩
        · cases hd
      · cases hd
    · cases hd

/-- A slice's literal. -/
def bslA (P : Program) (t : TypeId) (n : Nat) (ρ : Operand → AV) (parts : List (Nat × Operand)) : Option Row :=
  match tyOf P t with
  | some ⟨_, _, .slice e, _⟩ =>
    (match tyOf P e with
     | some te => if te.zero.length = te.size ∧ te.zero.all (·.oneCell') = true ∧ n * te.size ≤ 16777216 ∧ n ≤ 16777216 then
         (belA ρ te.size (List.replicate n (te.zero.map .v)) parts).map fun es => ⟨e, te.size, es, es.all (·.all isC)⟩ else none
     | none => none)
  | _ => none
theorem bslA_ok {P : Program} {h : Hp} {loc : Loc} {w : World} {t : TypeId} {n : Nat} {ρ : Operand → AV} {ev : Operand → Value} {parts : Array (Nat × Operand)} {row : Row}
    (hf : ∀ x ∈ parts.toList, G h loc w (ρ x.2) (ev x.2)) (hd : bslA P t n ρ parts.toList = some row) :
    ∃ cs, (Instr.buildSlice t n (parts.map fun (i, x) => (i, ev x))).run P w = .ok (.slice (some ⟨w.heap.size, 0, none⟩) n n) (w.alloc (.cells cs row.E)) ∧ NewRow h loc w row cs ∧ row.es.length = n ∧ n ≤ maxLen := by
  unfold bslA at hd
  split at hd
  · rename_i e z ht
    split at hd
    · rename_i te hte
      split at hd
      · rename_i hh
        obtain ⟨hz1, hz2, hz3, hz4⟩ := hh
        rw [Option.map_eq_some_iff] at hd
        obtain ⟨es, hb, rfl⟩ := hd
        obtain ⟨_, d, _, _, hud, _, _, _, hdd, _⟩ := tyOf_spec ht
        have hud := tdOf_slice hdd ▸ hud
        obtain ⟨i2, d2, z2, hi2, _, hzz, hs2, _, _, hzc⟩ := tyOf_spec hte
        have hzs : z2.cells.size = te.size := by rw [← hz1, ← hzc]; simp
        have hvs : ∀ q, q < n * te.size → ((Array.range (n * te.size)).map (fun x => z2.cells[x % z2.cells.size]!))[q]? = z2.cells[q % te.size]? := by
          intro q hq
          have hpos : 0 < te.size := by rcases Nat.eq_zero_or_pos te.size with h0 | h0; · rw [h0] at hq; omega
                                        · exact h0
          have hlt : q % te.size < z2.cells.size := by rw [hzs]; exact Nat.mod_lt _ hpos
          rw [Array.getElem?_map, Array.getElem?_range, if_pos hq]
          simp only [Option.map_some, hzs] at hlt ⊢
          rw [getElem!_pos _ _ (by omega), Array.getElem?_eq_getElem]
        obtain ⟨us, g1, g2, g3, g4, g5⟩ := belA_ok (h := h) (loc := loc) (w := w) (ρ := ρ) (ev := ev) parts.toList _ es ((Array.range (n * te.size)).map (fun x => z2.cells[x % z2.cells.size]!)) hf (by simp) (fun k e he => by
            rw [List.getElem?_replicate] at he
            split at he
            · cases he; simp [hz1]
            · cases he) (fun k e j a he ha => by
            rw [List.getElem?_replicate] at he
            split at he
            · rename_i hk
              cases he
              rw [List.getElem?_map, Option.map_eq_some_iff] at ha
              obtain ⟨v, hv, rfl⟩ := ha
              have hj := lt_of_some hv
              have hle := Nat.mul_le_mul_right te.size (show k + 1 ≤ n from hk)
              rw [Nat.add_mul] at hle
              refine ⟨v, ?_, List.all_eq_true.1 hz2 v (List.mem_of_getElem? hv), .cl .v⟩
              rw [hvs _ (by omega), Nat.mul_comm k, Nat.mul_add_mod, Nat.mod_eq_of_lt (by omega)]
              rw [← hzc] at hv
              simpa using hv
            · cases he) hb
        rw [List.length_replicate] at g2 g3
        refine ⟨us, ?_, ⟨fun hc e' he' x hx => List.all_eq_true.1 (List.all_eq_true.1 hc e' he') x hx, ?_, g4, g5⟩, g3, ?_⟩
        · have hso : (sizeOf e).run P w = .ok te.size w := by simp [sizeOf, typeInfo, hi2, hs2]
          have hzr : (zeroValue e).run P w = .ok z2 w := by simp [zeroValue, typeInfo, hi2, hzz]
          have g1' : Instr.fill (fun i => some (i * te.size, te.size)) ((Array.range (n * te.size)).map (fun x => z2.cells[x % z2.cells.size]!)) (parts.map fun (i, x) => (i, ev x)).toList = some us := by
            rw [Array.toList_map]; exact g1
          simp only [Instr.buildSlice, Sem.run_bind, run_underlying hud, Result.andThen_ok, hso]
          rw [if_neg (by omega)]
          by_cases h0 : n * te.size = 0
          · have hr0 : ∀ f : Nat → Value, (Array.range (n * te.size)).map f = #[] := fun f => Array.eq_empty_of_size_eq_zero (by simp [h0])
            rw [hr0] at g1'
            rw [if_pos h0]
            simp only [Sem.run_bind, Sem.run_pure, Result.andThen_ok, hr0]
            rw [g1']
            simp [newRow]
          · rw [if_neg h0]
            simp only [Sem.run_bind, Sem.run_pure, Result.andThen_ok, hzr]
            rw [g1']
            simp [newRow]
        · simp only [g2, g3]
        · unfold maxLen
          omega
      · cases hd
    · cases hd
  · cases hd

end Go.Proofs.YtccifbbjbnjcfaaGreatDoor
/-
  The abstract machine: equality of structs; one operation that makes no call and stores nothing.
-/
namespace Go.Proofs.YtccifbbjbnjcfaaGreatDoor
open Go Go.RowKit

/-- A part of a struct value. -/
def ptA (P : Program) (ft : TypeId) (cs : List AV) (off : Nat) : Option AV :=
  match tyOf P ft with
  | some tf => if tf.desc.isAgg then (if off + tf.size ≤ cs.length then some (.agg ((cs.drop off).take tf.size)) else none) else cs[off]?
  | none => none
theorem ptA_ok {P : Program} {h : Hp} {loc : Loc} {w : World} {ft : TypeId} {cs : List AV} {vs : Array Value} {off : Nat} {y : AV} (hvs : vs.size = cs.length) (hg : ∀ (j : Nat) a, cs[j]? = some a → G h loc w a (vs.getD j undef)) (hd : ptA P ft cs off = some y) :
    ∃ v, (part ft vs off).run P w = .ok v w ∧ G h loc w y v := by
  unfold ptA at hd
  split at hd
  · rename_i tf htf
    obtain ⟨i2, d2, z2, hi2, hud2, _, hs2, _, hdd2, _⟩ := tyOf_spec htf
    have hag : (isAgg ft).run P w = .ok tf.desc.isAgg w := by
      unfold isAgg
      rw [Sem.run_bind, run_underlying hud2 w]
      have := isAgg_row d2
      rw [hdd2] at this
      cases d2 <;> simp_all
    split at hd
    · rename_i hagg
      split at hd
      · rename_i hle
        cases hd
        rw [hagg] at hag
        refine ⟨.agg (vs.extract off (off + tf.size)), by simp [part, hag, sizeOf, typeInfo, hi2, hs2], .agg _ ?_ fun j a ha => ?_⟩
        · simp; omega
        · rw [List.getElem?_take] at ha
          split at ha
          · rename_i hj
            rw [List.getElem?_drop] at ha
            have := hg _ a ha
            have hlt := lt_of_some ha
            have e : (vs.extract off (off + tf.size)).getD j undef = vs.getD (off + j) undef := by
              have h1 : j < (vs.extract off (off + tf.size)).size := by simp; omega
              have h2 : off + j < vs.size := by omega
              rw [Array.getD, dif_pos h1, Array.getD, dif_pos h2, Array.getInternal_eq_getElem, Array.getInternal_eq_getElem, Array.getElem_extract]
            rw [e]
            exact this
          · cases ha
      · cases hd
    · rename_i hagg
      have hagg' : tf.desc.isAgg = false := by simpa using hagg
      rw [hagg'] at hag
      have hlt := lt_of_some hd
      have h2 : off < vs.size := by omega
      refine ⟨vs[off], by simp [part, hag, h2], ?_⟩
      have := hg _ y hd
      rwa [Array.getD, dif_pos h2] at this
  · cases hd

/-- Fields, one by one. -/
def eqFs (P : Program) (g : TypeId → AV → AV → Option Bool) (xs ys : List AV) : List (Nat × TypeId) → Option Bool
  | [] => some true
  | (off, ft) :: r =>
    match ptA P ft xs off, ptA P ft ys off with
    | some a, some b => (match g ft a b, eqFs P g xs ys r with
      | some p, some q => some (p && q)
      | _, _ => none)
    | _, _ => none
/-- Two values of one type. -/
def eqT (P : Program) : Nat → TypeId → AV → AV → Option Bool
  | 0, _, _, _ => none
  | d + 1, t, x, y =>
    match tyOf P t, x, y with
    | some ⟨_, _, .struct fs, _⟩, .agg xs, .agg ys => if P.stoodInHeld t = false then eqFs P (eqT P d) xs ys fs else none
    | some ⟨_, _, .int _, _⟩, .v (.int k a), .v (.int k' b) => if k = k' then some (eqI a b) else none
    | some ⟨_, _, .string, _⟩, .v (.string a), .v (.string b) => some (eqS a b)
    | some ⟨_, _, .bool, _⟩, .v (.bool a), .v (.bool b) => some (a == b)
    | _, _, _ => none

theorem eqFs_ok {P : Program} {h : Hp} {loc : Loc} {w : World} {g : TypeId → AV → AV → Option Bool} {D : Nat}
    (hgo : ∀ t x y u v r, g t x y = some r → G h loc w x u → G h loc w y v → (Op.equalIn D t u v).run P w = .ok r w)
    {xs ys : List AV} {us vs : Array Value} (hu : us.size = xs.length) (hug : ∀ (j : Nat) a, xs[j]? = some a → G h loc w a (us.getD j undef)) (hv : vs.size = ys.length) (hvg : ∀ (j : Nat) a, ys[j]? = some a → G h loc w a (vs.getD j undef)) :
    ∀ (l : List Field) (r : Bool), (∀ f ∈ l, f.name ≠ "_") → eqFs P g xs ys (l.map fun f => (f.offset, f.type)) = some r → (Op.eqFields D us vs l).run P w = .ok r w
  | [], r, _, hd => by
    simp only [List.map_nil, eqFs, Option.some.injEq] at hd
    subst hd
    rfl
  | f :: l, r, hn, hd => by
    simp only [List.map_cons, eqFs] at hd
    split at hd
    · rename_i a b ha hb
      split at hd
      · rename_i p q hp hq
        cases hd
        obtain ⟨u, hu1, hu2⟩ := ptA_ok hu hug ha
        obtain ⟨v, hv1, hv2⟩ := ptA_ok hv hvg hb
        have h1 := hgo f.type a b u v p hp hu2 hv2
        have h2 := eqFs_ok hgo hu hug hv hvg l q (fun f hf => hn f (List.mem_cons_of_mem _ hf)) hq
        simp only [Op.eqFields, if_pos (hn f (List.mem_cons_self ..)), Sem.run_bind, hu1, hv1, Result.andThen_ok, h1]
        cases p <;> simp [h2]
      · cases hd
    · cases hd

theorem eqT_ok {P : Program} {h : Hp} {loc : Loc} {w : World} : ∀ (d : Nat) (t : TypeId) (x y : AV) (u v : Value) (r : Bool) (D : Nat), d ≤ D → eqT P d t x y = some r → G h loc w x u → G h loc w y v → (Op.equalIn D t u v).run P w = .ok r w
  | 0, _, _, _, _, _, _, _, _, hd, _, _ => by cases hd
  | d + 1, t, x, y, u, v, r, D, hD, hd, hx, hy => by
    obtain ⟨D, rfl⟩ : ∃ D', D = D' + 1 := ⟨D - 1, by omega⟩
    simp only [eqT] at hd
    split at hd
    · rename_i fs z xs ys ht
      split at hd
      · rename_i hst
        obtain ⟨i, dd, zz, _, hud, _, _, _, hdd, _⟩ := tyOf_spec ht
        obtain ⟨l, rfl, rfl, hnames⟩ := tdOf_struct hdd
        obtain ⟨us, rfl, hu, hug⟩ := hx.agg_inv
        obtain ⟨vs, rfl, hv, hvg⟩ := hy.agg_inv
        have hfo : P.fieldsOf t = l := by simp [Program.fieldsOf, hud]
        rw [run_equalIn_struct w D t us vs (by rw [hfo]; exact hud) hst, hfo]
        exact eqFs_ok (fun t x y u v r h1 h2 h3 => eqT_ok d t x y u v r D (by omega) h1 h2 h3) hu hug hv hvg l.toList r hnames hd
      · cases hd
    · rename_i ki z k a k' b ht
      split at hd
      · rename_i hk
        subst hk
        cases hd
        obtain ⟨i, dd, zz, _, hud, _, _, _, hdd, _⟩ := tyOf_spec ht
        rw [hx.v_inv, hy.v_inv]
        exact run_equalIn_int w D t k _ a b (tdOf_int hdd ▸ hud)
      · cases hd
    · rename_i z a b ht
      cases hd
      obtain ⟨i, dd, zz, _, hud, _, _, _, hdd, _⟩ := tyOf_spec ht
      rw [hx.v_inv, hy.v_inv]
      exact run_equalIn_string w D t a b (tdOf_string hdd ▸ hud)
    · rename_i z a b ht
      cases hd
      obtain ⟨i, dd, zz, _, hud, _, _, _, hdd, _⟩ := tyOf_spec ht
      rw [hx.v_inv, hy.v_inv]
      exact run_equalIn_bool' w D t a b (tdOf_bool hdd ▸ hud)
    · cases hd

theorem run_eqb {P : Program} {bop : BinOp} {t : TypeId} {ox oy : Operand} {a b : Bool} (w : World) (ht : P.underlying t = some .bool) (hb : bop = .eql ∨ bop = .neq) :
    (do eqGuard bop t ox oy (.bool a) (.bool b); binOp bop t (.bool a) (.bool b) : Sem Value).run P w = .ok (.bool (if bop = .eql then (a == b) else !(a == b))) w := by
  have e : (Op.equalIn 10000 t (.bool a) (.bool b)).run P w = .ok (a == b) w := run_equalIn_bool' w 9999 t a b ht
  have g : (eqGuard bop t ox oy (.bool a) (.bool b)).run P w = .ok () w := by
    rcases hb with rfl | rfl <;> simp [eqGuard]
  rw [Sem.run_bind, g]
  simp only [Result.andThen_ok]
  rcases hb with rfl | rfl
  · show Sem.run P (do pure (Value.bool (← Op.equal t (.bool a) (.bool b)))) w = _
    simp only [Op.equal, Op.maxDepth, Sem.run_bind, e, Result.andThen_ok, Sem.run_pure, if_true]
  · show Sem.run P (do pure (Value.bool (!(← Op.equal t (.bool a) (.bool b))))) w = _
    simp only [Op.equal, Op.maxDepth, Sem.run_bind, e, Result.andThen_ok, Sem.run_pure]
    rfl

/-- Operators. -/
def bnA (P : Program) (bop : BinOp) (t : TypeId) (x y : AV) : Option AV :=
  match x, y with
  | .v (.bool a), .v (.bool b) => (match tyOf P t, bop with
    | some ⟨_, _, .bool, _⟩, .eql => some (.v (.bool (a == b)))
    | some ⟨_, _, .bool, _⟩, .neq => some (.v (.bool (!(a == b))))
    | _, _ => none)
  | .v a, .v b => (scBin bop a b).map .v
  | .agg xs, .agg ys => if P.eqGuardType P.depth t = false then (match bop with
    | .eql => (eqT P 5 t (.agg xs) (.agg ys)).map fun r => .v (.bool r)
    | .neq => (eqT P 5 t (.agg xs) (.agg ys)).map fun r => .v (.bool (!r))
    | _ => none) else none
  | _, _ => none
theorem bnA_ok {P : Program} {h : Hp} {loc : Loc} {w : World} {bop : BinOp} {t : TypeId} {ox oy : Operand} {x y z : AV} {u v : Value} (hx : G h loc w x u) (hy : G h loc w y v) (hd : bnA P bop t x y = some z) :
    ∃ r, (do eqGuard bop t ox oy u v; binOp bop t u v : Sem Value).run P w = .ok r w ∧ G h loc w z r := by
  unfold bnA at hd
  split at hd
  · rename_i a b
    rw [hx.v_inv, hy.v_inv]
    split at hd
    · rename_i ht
      cases hd
      obtain ⟨i, dd, zz, _, hud, _, _, _, hdd, _⟩ := tyOf_spec ht
      exact ⟨_, run_eqb w (tdOf_bool hdd ▸ hud) (.inl rfl), .cl .v⟩
    · rename_i ht
      cases hd
      obtain ⟨i, dd, zz, _, hud, _, _, _, hdd, _⟩ := tyOf_spec ht
      exact ⟨_, run_eqb w (tdOf_bool hdd ▸ hud) (.inr rfl), .cl .v⟩
    · cases hd
  · rw [hx.v_inv, hy.v_inv]
    rw [Option.map_eq_some_iff] at hd
    obtain ⟨r, hr, rfl⟩ := hd
    exact ⟨r, scBin_ok hr w, .cl .v⟩
  · rename_i xs ys
    split at hd
    · rename_i hgt
      obtain ⟨us, rfl, hu, hug⟩ := hx.agg_inv
      obtain ⟨vs, rfl, hv, hvg⟩ := hy.agg_inv
      split at hd
      · rw [Option.map_eq_some_iff] at hd
        obtain ⟨r, hr, rfl⟩ := hd
        have := eqT_ok (P := P) 5 t _ _ _ _ r 10000 (by omega) hr hx hy
        refine ⟨.bool r, ?_, .cl .v⟩
        simp only [Sem.run_bind, run_eqGuard_agg w .eql t ox oy us vs hgt, Result.andThen_ok, run_eql_struct, this]
      · rw [Option.map_eq_some_iff] at hd
        obtain ⟨r, hr, rfl⟩ := hd
        have := eqT_ok (P := P) 5 t _ _ _ _ r 10000 (by omega) hr hx hy
        refine ⟨.bool (!r), ?_, .cl .v⟩
        simp only [Sem.run_bind, run_eqGuard_agg w .neq t ox oy us vs hgt, Result.andThen_ok, run_neq_struct, this]
      · cases hd
    · cases hd
  · cases hd

/-- One of two. -/
def sel (c : Bool) (x y : AV) : AV := if c then x else y

/-- What an operation leaves that makes no call and stores nothing. -/
inductive PeR where
  | no
  | mks (φ : Prop) (row : Row)
  | val (x : AV)
  | newp (row : Row)
  | news (row : Row)
  | nil (row : Row)
def PeR.ofV : Option AV → PeR
  | some x => .val x
  | none => .no
def PeR.ofP : Option Row → PeR
  | some x => .newp x
  | none => .no
def PeR.ofS : Option Row → PeR
  | some x => .news x
  | none => .no
def mvA (P : Program) (t : TypeId) (x : AV) : PeR :=
  match x with
  | .v (.slice none 0 0) => (match tyOf P t with
    | some ⟨_, _, .slice e, _⟩ => (match tyOf P e with
      | some te => .nil ⟨e, te.size, [], true⟩
      | none => .no)
    | _ => .no)
  | y => .val y

/-- Elements, as they are read. -/
def rowsA (h : Hp) : AV → Option (Nat × List (List AV))
  | .sl sz es => some (sz, es)
  | .o r n => (match hget h r with
    | some row => some (row.sz, row.es.take n)
    | none => none)
  | _ => none
def bytesA : List (List AV) → Option (List UInt8)
  | [] => some []
  | [.v (.int .u8 k)] :: l => (bytesA l).map (UInt8.ofNat k.toNat :: ·)
  | _ => none
/-- Bytes as a string. -/
def cvS (P : Program) (h : Hp) (a b : TypeId) (x : AV) : Option AV :=
  match tyOf P a, tyOf P b with
  | some ⟨_, _, .slice e, _⟩, some ⟨_, _, .string, _⟩ => (match tyOf P e with
    | some ⟨1, _, .int .u8, _⟩ => (match rowsA h x with
      | some (1, es) => (bytesA es).map fun l => .v (.string ⟨l.toArray⟩)
      | _ => none)
    | _ => none)
  | _, _ => none
/-- A new slice of zeros. -/
def mkA (P : Program) (t : TypeId) (x y : AV) : PeR :=
  match tyOf P t with
  | some ⟨_, _, .slice e, _⟩ => (match tyOf P e with
    | some te => (match x, y with
      | .v (.int .i64 n), .v (.int .i64 n') => if te.zero.length = te.size ∧ 0 < te.size ∧ te.zero.all (·.oneCell') = true then .mks (n = n' ∧ 0 ≤ n ∧ n ≤ 9223372036854775807 ∧ n.toNat * te.bytes ≤ 140737488355328) ⟨e, te.size, List.replicate n.toNat (te.zero.map .v), true⟩ else .no
      | _, _ => .no)
    | none => .no)
  | _ => .no
def ncA : AV → Option AV
  | .p r k off => some (.p r k off)
  | .ip cs => some (.ip cs)
  | _ => none
/-- Plain values: a function's bound arguments. -/
def valL : List AV → Option (List Value)
  | [] => some []
  | .v x :: l => (valL l).map (x :: ·)
  | _ => none
def valA : AV → Option Value
  | .v x => some x
  | .agg cs => (valL cs).map fun l => .agg l.toArray
  | _ => none
def valFs : List AV → Option (List Value)
  | [] => some []
  | x :: l => match valA x, valFs l with
    | some v, some vs => some (v :: vs)
    | _, _ => none
def bmA (f : FuncId) : Option (List Value) → Option (List Value) → PeR
  | some fs, some cs => .val (.v (.func (.func f) fs.toArray cs.toArray))
  | _, _ => .no
theorem valL_ok {h : Hp} {loc : Loc} {w : World} : ∀ (l : List AV) (ys : List Value) (vs : Array Value) (n : Nat), valL l = some ys → (∀ (j : Nat) a, l[j]? = some a → G h loc w a (vs.getD (n + j) undef)) → ∀ (j : Nat) y, ys[j]? = some y → vs.getD (n + j) undef = y
  | [], ys, vs, n, h1, _, j, y, hy => by cases h1; simp at hy
  | x :: l, ys, vs, n, h1, hg, j, y, hy => by
    cases x with
    | v x =>
      simp only [valL, Option.map_eq_some_iff] at h1
      obtain ⟨r, hr, rfl⟩ := h1
      cases j with
      | zero => cases hy; exact (hg 0 _ rfl).v_inv
      | succ j =>
        have := valL_ok l r vs (n + 1) hr (fun i a ha => by rw [show n + 1 + i = n + (i + 1) from by omega]; exact hg (i + 1) a (by simpa using ha)) j y (by simpa using hy)
        rwa [show n + 1 + j = n + (j + 1) from by omega] at this
    | _ => cases h1
theorem valL_len : ∀ (l : List AV) (ys : List Value), valL l = some ys → ys.length = l.length
  | [], ys, h => by cases h; rfl
  | x :: l, ys, h => by
    cases x with
    | v x =>
      simp only [valL, Option.map_eq_some_iff] at h
      obtain ⟨r, hr, rfl⟩ := h
      simp [valL_len l r hr]
    | _ => cases h
theorem valA_ok {h : Hp} {loc : Loc} {w : World} {x : AV} {y u : Value} (hy : valA x = some y) (hg : G h loc w x u) : u = y := by
  cases x with
  | v x => cases hy; exact hg.v_inv
  | agg cs =>
    simp only [valA, Option.map_eq_some_iff] at hy
    obtain ⟨l, hl, rfl⟩ := hy
    obtain ⟨vs, rfl, hs, hgs⟩ := hg.agg_inv
    have h1 := valL_ok cs l vs 0 hl fun j a ha => by rw [Nat.zero_add]; exact hgs j a ha
    have h2 := valL_len cs l hl
    congr 1
    apply Array.ext
    · simp; omega
    · intro i g1 g2
      have g3 : i < l.length := by simpa using g2
      have := h1 i l[i] (List.getElem?_eq_getElem g3)
      rw [Nat.zero_add] at this
      simpa [Array.getD, g1] using this
  | _ => cases hy
theorem valFs_ok {h : Hp} {loc : Loc} {w : World} {ρ : Operand → AV} {ev : Operand → Value} : ∀ (xs : List Operand) (ys : List Value), valFs (xs.map ρ) = some ys → (∀ x ∈ xs, G h loc w (ρ x) (ev x)) → xs.map ev = ys
  | [], ys, h1, _ => by cases h1; rfl
  | x :: xs, ys, h1, hg => by
    simp only [List.map_cons, valFs] at h1
    split at h1
    · rename_i v vs hv hvs
      cases h1
      rw [List.map_cons, valA_ok hv (hg x List.mem_cons_self), valFs_ok xs vs hvs fun y hy => hg y (List.mem_cons_of_mem _ hy)]
    · cases h1
/-- Builtins that only compute. -/
def pcA (P : Program) (ρ : Operand → AV) : Callee → List Operand → List TypeId → PeR
  | .builtin .len, [x], [t] => .ofV (lnA P t (ρ x))
  | .builtin .min, [x, y], _ => (match ρ x, ρ y with
      | .v (.int k a), .v (.int _ b) => .val (.v (.int k (if b < a then b else a)))
      | _, _ => .no)
  | _, _, _ => .no

def pe (P : Program) (h : Hp) (ρ : Operand → AV) (o : Oper) : PeR :=
  match o.op with
  | .move x => mvA P o.type (ρ x)
  | .assign x => mvA P o.type (ρ x)
  | .pick c a b => (match ρ c with
    | .v (.bool c') => .val (sel c' (ρ a) (ρ b))
    | _ => .no)
  | .alloc t => .ofP (alA P t)
  | .box t x => .ofP (bxA t (ρ x))
  | .build t parts => .ofV (bsA P t ρ parts.toList)
  | .buildSlice t n parts => .ofS (bslA P t n ρ parts.toList)
  | .load t x => .ofV (ldA P h t (ρ x))
  | .binOp bop t x y _ => .ofV (bnA P bop t (ρ x) (ρ y))
  | .unOp uop _ x => (match uop, ρ x with
    | .not, .v (.bool b) => .val (.v (.bool (!b)))
    | .neg, .v (.int k n) => .val (.v (.int k (k.wrap (0 - n))))
    | _, _ => .no)
  | .convert s d x => (match tyOf P s, tyOf P d, ρ x with
    | some _, some ⟨_, _, .int k, _⟩, .v (.int _ n) => .val (.v (.int k (k.wrap n)))
    | _, _, _ => .ofV (cvS P h s d (ρ x)))
  | .nilCheck x => .ofV (ncA (ρ x))
  | .makeSlice t l c => mkA P t (ρ l) (ρ c)
  | .makeFunc (.func f) first caps => if first.isEmpty then .val (.fn f (caps.toList.map ρ)) else bmA f (valFs (first.toList.map ρ)) (valFs (caps.toList.map ρ))
  | .slice t x lo hi none => .ofV (slA P t (ρ x) (lo.map ρ) (hi.map ρ))
  | .fieldAddr t x f => .ofV (faA P t (ρ x) f)
  | .field t x f => .ofV (fdA P t (ρ x) f)
  | .indexAddr t x i => .ofV (ixA P h t (ρ x) (ρ i))
  | .index t x i => (match tyOf P t, ρ x, ρ i with
    | some ⟨_, _, .string, _⟩, .v (.string s), .v (.int _ n) => if 0 ≤ n then (match s[n.toNat]? with
      | some b => .val (.v (.int .u8 b.toNat))
      | none => .no) else .no
    | _, _, _ => .no)
  | .extract x i => (match ρ x with
    | .tup vs => .ofV vs[i]?
    | _ => .no)
  | .call c => pcA P ρ c.callee c.args.toList c.argTypes.toList
  | _ => .no

end Go.Proofs.YtccifbbjbnjcfaaGreatDoor
/-
  The abstract machine: what one operation leaves is what the model's run leaves.
-/
namespace Go.Proofs.YtccifbbjbnjcfaaGreatDoor
open Go Go.RowKit

def PeSem (h : Hp) (loc : Loc) (w : World) (r : Result Next) : PeR → Prop
  | .no => True
  | .val x => ∃ u, r = .ok (.value u) w ∧ G h loc w x u
  | .newp row => ∃ cs, r = .ok (.value (.pointer (some ⟨w.heap.size, 0, none⟩))) (w.alloc (.cells cs row.E)) ∧ NewRow h loc w row cs ∧ row.es.length = 1
  | .news row => ∃ cs, r = .ok (.value (.slice (some ⟨w.heap.size, 0, none⟩) row.es.length row.es.length)) (w.alloc (.cells cs row.E)) ∧ NewRow h loc w row cs ∧ row.es.length ≤ maxLen
  | .nil row => r = .ok (.value (.slice none 0 0)) w ∧ row.es = []
  | .mks φ row => φ → ∃ cs, r = .ok (.value (.slice (some ⟨w.heap.size, 0, none⟩) row.es.length row.es.length)) (w.alloc (.cells cs row.E)) ∧ NewRow h loc w row cs ∧ row.es.length ≤ maxLen

theorem PeSem.ofV {h : Hp} {loc : Loc} {P : Program} {w : World} {m : Sem Value} {x : Option AV} (hh : ∀ y, x = some y → ∃ v, m.run P w = .ok v w ∧ G h loc w y v) :
    PeSem h loc w ((do pure (.value (← m)) : Sem Next).run P w) (.ofV x) := by
  cases x with
  | none => trivial
  | some y =>
    obtain ⟨v, h1, h2⟩ := hh y rfl
    exact ⟨v, by simp [h1], h2⟩

theorem mvA_ok {P : Program} {h : Hp} {loc : Loc} {w : World} {t : TypeId} {x : AV} {u : Value} (hx : G h loc w x u) : PeSem h loc w (.ok (.value u) w) (mvA P t x) := by
  unfold mvA
  split
  · split
    · split
      · exact ⟨by rw [hx.v_inv], rfl⟩
      · trivial
    · trivial
  · exact ⟨u, rfl, hx⟩

theorem G.sel {h : Hp} {loc : Loc} {w : World} {x y : AV} {u v : Value} (c : Bool) (hx : G h loc w x u) (hy : G h loc w y v) : G h loc w (sel c x y) (if c then u else v) := by
  cases c
  · exact hy
  · exact hx

theorem opt_hyp {h : Hp} {loc : Loc} {w : World} {ρ : Operand → AV} {ev : Operand → Value} {l : Option Operand} (hl : ∀ y, l = some y → G h loc w (ρ y) (ev y)) :
    (∀ x, l.map ρ = some x → ∃ u, l.map ev = some u ∧ G h loc w x u) ∧ (l.map ρ = none → l.map ev = none) := by
  cases l with
  | none => simp
  | some y => exact ⟨fun x hx => by simp at hx; subst hx; exact ⟨_, rfl, hl y rfl⟩, fun h => by simp at h⟩

theorem bytesA_get : ∀ (es : List (List AV)) (l : List UInt8), bytesA es = some l → ∃ ns : List Int, es = ns.map (fun n => [.v (.int .u8 n)]) ∧ l = ns.map fun n => UInt8.ofNat n.toNat
  | [], l, h => by simp only [bytesA, Option.some.injEq] at h; subst h; exact ⟨[], rfl, rfl⟩
  | e :: es, l, h => by
    unfold bytesA at h
    split at h
    · rename_i h0; cases h0
    · rename_i k l' h0
      cases h0
      rw [Option.map_eq_some_iff] at h
      obtain ⟨l2, h1, rfl⟩ := h
      obtain ⟨ns, rfl, rfl⟩ := bytesA_get es l2 h1
      exact ⟨k :: ns, rfl, rfl⟩
    · cases h
theorem rowsA_ok {h : Hp} {loc : Loc} {w : World} {x : AV} {u : Value} {es : List (List AV)} (hx : G h loc w x u) (hrows : ∀ r row, hget h r = some row → RowOk h loc w r row) (hd : rowsA h x = some (1, es)) :
    ∃ A c, u = .slice A es.length c ∧ (0 < es.length → ∃ b off, A = some ⟨b, off, none⟩ ∧ ∀ (k : Nat) a, es[k]? = some [a] → ∃ v, w.cell? ⟨b, off + k, none⟩ = some v ∧ G h loc w a v) := by
  cases x with
  | sl sz es' =>
    simp only [rowsA, Option.some.injEq, Prod.mk.injEq] at hd
    obtain ⟨rfl, rfl⟩ := hd
    cases hx with
    | cl hc =>
      cases hc with
      | sl xs u hr hlv hc hm hl hxx hg =>
        refine ⟨_, _, rfl, fun hn => ?_⟩
        obtain ⟨b, off, h1, h2, h3, h4⟩ := hr.2 hn
        refine ⟨b, off, h1, fun k a he => ?_⟩
        obtain ⟨g1, g2⟩ := hxx k [a] 0 he (by simp)
        rw [Nat.mul_one, Nat.add_zero] at g1
        exact ⟨u k 0, h4 _ _ g1, .cl (hg k [a] 0 a he rfl)⟩
  | o r n =>
    simp only [rowsA] at hd
    split at hd
    · rename_i row hrow
      simp only [Option.some.injEq, Prod.mk.injEq] at hd
      obtain ⟨hsz, rfl⟩ := hd
      cases hx with
      | cl hc => cases hc
      | @o _ _ row' b c hr hl hn =>
        rw [hrow] at hr; cases hr
        have hlen : (row.es.take n).length = n := by simp; omega
        refine ⟨_, _, by rw [hlen], fun hn0 => ⟨b, 0, rfl, fun k a he => ?_⟩⟩
        rw [List.getElem?_take] at he
        split at he
        · obtain ⟨v, g1, g2, g3⟩ := row_cells (hrows r row hrow) hl he (j := 0) (x := a) rfl
          rw [hsz, Nat.mul_one, Nat.add_zero] at g1
          exact ⟨v, by rw [Nat.zero_add]; exact g1, g3⟩
        · cases he
      | onil hr hl =>
        refine ⟨none, 0, by simp, fun h0 => by simp at h0⟩
    · cases hd
  | _ => simp [rowsA] at hd
theorem cvS_ok {P : Program} {h : Hp} {loc : Loc} {w : World} {a b : TypeId} {x y : AV} {u : Value} (hx : G h loc w x u) (hrows : ∀ r row, hget h r = some row → RowOk h loc w r row) (hd : cvS P h a b x = some y) :
    ∃ v, (convert a b u).run P w = .ok v w ∧ G h loc w y v := by
  unfold cvS at hd
  split at hd
  · rename_i e z2 z3 z4 z5 ht1 ht2
    split at hd
    · rename_i z6 z7 hte
      split at hd
      · rename_i es hrw
        rw [Option.map_eq_some_iff] at hd
        obtain ⟨l, hl, rfl⟩ := hd
        obtain ⟨_, d1, _, _, hud1, _, _, _, hdd1, _⟩ := tyOf_spec ht1
        obtain ⟨_, d2, _, _, hud2, _, _, _, hdd2, _⟩ := tyOf_spec ht2
        obtain ⟨_, d3, _, _, hud3, _, _, _, hdd3, _⟩ := tyOf_spec hte
        have hud1 := tdOf_slice hdd1 ▸ hud1
        have hud2 := tdOf_string hdd2 ▸ hud2
        have hud3 := tdOf_int hdd3 ▸ hud3
        obtain ⟨ns, rfl, rfl⟩ := bytesA_get es l hl
        obtain ⟨A, c, rfl, hA⟩ := rowsA_ok hx hrows hrw
        rw [List.length_map]
        cases hns : ns with
        | nil =>
          refine ⟨_, ?_, .cl .v⟩
          rw [run_convert_bytes_string w a b e A _ _ hud1 hud3 hud2]
          cases A with
          | none => simp [Conv.bytesToString]; rfl
          | some ad =>
            have := run_bytesToString (P := P) w ad 0 c [] (by simp [loadCells, loadCellsFrom])
            exact this
        | cons n0 nr =>
          rw [← hns]
          have hpos : 0 < (ns.map fun n => [AV.v (.int .u8 n)]).length := by rw [hns]; simp
          obtain ⟨bl, off, rfl, hcell⟩ := hA hpos
          refine ⟨_, run_convert_bytes_arg w a e hud1 hud3 bl off ns.length c ns rfl (fun i hi => ?_) b hud2, ?_⟩
          · obtain ⟨v, g1, g2⟩ := hcell i (.v (.int .u8 ns[i])) (by rw [List.getElem?_map, List.getElem?_eq_getElem hi]; rfl)
            rw [g2.v_inv] at g1
            rw [g1]
            simp [List.getElem?_eq_getElem hi]
          · exact .cl .v
      · cases hd
    · cases hd
  · cases hd
theorem mkA_ok {P : Program} {h : Hp} {loc : Loc} {w : World} {t : TypeId} {x y : AV} {u v : Value} (hx : G h loc w x u) (hy : G h loc w y v) : PeSem h loc w ((do pure (.value (← Instr.makeSlice t u v)) : Sem Next).run P w) (mkA P t x y) := by
  unfold mkA
  split
  · rename_i e z ht
    split
    · rename_i te hte
      split
      · rename_i n n'
        split
        · rename_i hz
          obtain ⟨hz1, hz2, hz3⟩ := hz
          rintro ⟨rfl, h0, h63, hroom⟩
          obtain ⟨_, d1, _, _, hud1, _, _, _, hdd1, _⟩ := tyOf_spec ht
          obtain ⟨i2, d2, z2, hi2, _, hzz, hs2, hb2, _, hzc⟩ := tyOf_spec hte
          have hud1 := tdOf_slice hdd1 ▸ hud1
          rw [hx.v_inv, hy.v_inv]
          have hzs : z2.cells.size = te.size := by rw [← hz1, ← hzc]; simp
          have wl : IntKind.i64.wrap n = n := by rw [IntKind.wrap_i64]; omega
          have n1 : ¬ n < 0 := by omega
          have n2 : ¬ (281474976710656 < (i2.bytes : Int) * n) := by
            have h1 : ((n.toNat * te.bytes : Nat) : Int) ≤ 140737488355328 := by omega
            have h2 : ((n.toNat * te.bytes : Nat) : Int) = (i2.bytes : Int) * n := by
              rw [Int.natCast_mul, hb2, Int.toNat_of_nonneg h0, Int.mul_comm]
            omega
          have n5 : ¬ (140737488355328 < n.toNat * i2.bytes) := by rw [hb2]; omega
          have hvs : ∀ q, q < n.toNat * te.size → ((Array.range (n.toNat * te.size)).map (fun x => z2.cells[x % z2.cells.size]!))[q]? = z2.cells[q % te.size]? := by
            intro q hq
            have hlt : q % te.size < z2.cells.size := by rw [hzs]; exact Nat.mod_lt _ hz2
            rw [Array.getElem?_map, Array.getElem?_range, if_pos hq]
            simp only [Option.map_some, hzs] at hlt ⊢
            rw [getElem!_pos _ _ (by omega), Array.getElem?_eq_getElem]
          refine ⟨(Array.range (n.toNat * te.size)).map (fun x => z2.cells[x % z2.cells.size]!), ?_, ⟨fun _ e' he' x hx => ?_, ?_, fun k e' he' => ?_, fun k e' j a he' ha => ?_⟩, ?_⟩
          · simp only [List.length_replicate]
            by_cases hn : n.toNat * te.size = 0
            · have e0 : n.toNat = 0 := by
                rcases Nat.mul_eq_zero.1 hn with h | h
                · exact h
                · omega
              simp [Instr.makeSlice, run_underlying hud1, asInt, asIntOf, typeInfo, hi2, sizeOf, wl, n1, n2, n5, newRow, askRoom, roomBytes, hs2, e0, show Array.range 0 = #[] from rfl]
            · simp [Instr.makeSlice, run_underlying hud1, asInt, asIntOf, typeInfo, hi2, sizeOf, zeroValue, hzz, wl, n1, n2, n5, newRow, askRoom, roomBytes, hs2, hn]
          · have := List.eq_of_mem_replicate he'
            subst this
            obtain ⟨v0, _, rfl⟩ := List.mem_map.1 hx
            rfl
          · simp
          · rw [List.getElem?_replicate] at he'
            split at he'
            · cases he'; simp [hz1]
            · cases he'
          · rw [List.getElem?_replicate] at he'
            split at he'
            · rename_i hk
              cases he'
              rw [List.getElem?_map, Option.map_eq_some_iff] at ha
              obtain ⟨v0, hv, rfl⟩ := ha
              have hj := lt_of_some hv
              have hle := Nat.mul_le_mul_right te.size (show k + 1 ≤ n.toNat from hk)
              rw [Nat.add_mul] at hle
              refine ⟨v0, ?_, List.all_eq_true.1 hz3 v0 (List.mem_of_getElem? hv), .cl .v⟩
              show ((Array.range (n.toNat * te.size)).map (fun x => z2.cells[x % z2.cells.size]!))[k * te.size + j]? = some v0
              rw [hvs _ (by omega), Nat.mul_comm k, Nat.mul_add_mod, Nat.mod_eq_of_lt (by omega)]
              rw [← hzc] at hv
              simpa using hv
            · cases he'
          · simp only [List.length_replicate]
            unfold maxLen
            omega
        · trivial
      · trivial
    · trivial
  · trivial

set_option maxHeartbeats 1000000 in
theorem pe_ok {P : Program} {h : Hp} {loc : Loc} {w : World} {ρ : Operand → AV} {ev : Operand → Value} {o : Oper}
    (hop : ∀ y ∈ o.op.operands, G h loc w (ρ y) (ev y)) (hrows : ∀ r row, hget h r = some row → RowOk h loc w r row) :
    PeSem h loc w ((execOp ev o).run P w) (pe P h ρ o) := by
  obtain ⟨dst, op, type, pos, after, guard⟩ := o
  unfold pe
  simp only
  simp only at hop
  split
  · rename_i x
    exact mvA_ok (hop x (by simp [Op.operands]))
  · rename_i x
    exact mvA_ok (hop x (by simp [Op.operands]))
  · rename_i c a b
    split
    · rename_i c' hc
      have h1 := hop c (by simp [Op.operands])
      rw [hc] at h1
      have h1 := h1.v_inv
      refine ⟨if c' then ev a else ev b, by simp [execOp, h1, asBool], (hop a (by simp [Op.operands])).sel c' (hop b (by simp [Op.operands]))⟩
    · trivial
  · rename_i t
    cases ha : alA P t with
    | none => trivial
    | some row =>
      obtain ⟨cs, h1, h2, h3⟩ := alA_ok (h := h) (loc := loc) (w := w) ha
      exact ⟨cs, by simp [execOp, h1], h2, h3⟩
  · rename_i t x
    cases ha : bxA t (ρ x) with
    | none => trivial
    | some row =>
      obtain ⟨h1, h2, h3⟩ := bxA_ok (P := P) (hop x (by simp [Op.operands])) ha
      exact ⟨_, by simp [execOp, h1], h2, h3⟩
  · rename_i t parts
    exact PeSem.ofV fun y hy => bsA_ok (fun x hx => hop x.2 (by simp [Op.operands]; exact ⟨_, by simpa using hx⟩)) hy
  · rename_i t n parts
    cases ha : bslA P t n ρ parts.toList with
    | none => trivial
    | some row =>
      obtain ⟨cs, h1, h2, h3, h4⟩ := bslA_ok (h := h) (loc := loc) (w := w) (ev := ev) (fun x hx => hop x.2 (by simp [Op.operands]; exact ⟨_, by simpa using hx⟩)) ha
      exact ⟨cs, by simp only [execOp, Sem.run_bind, h1, Result.andThen_ok, Sem.run_pure, h3], h2, by omega⟩
  · rename_i t x
    exact PeSem.ofV fun y hy => ldA_ok (hop x (by simp [Op.operands])) hrows hy
  · rename_i bop t x y _
    exact PeSem.ofV fun z hz => bnA_ok (hop x (by simp [Op.operands])) (hop y (by simp [Op.operands])) hz
  · rename_i uop _ x
    split
    · rename_i b hb
      have h1 := hop x (by simp [Op.operands])
      rw [hb] at h1
      exact ⟨_, by simp [execOp, h1.v_inv, Op.unary], .cl .v⟩
    · rename_i k n hb
      have h1 := hop x (by simp [Op.operands])
      rw [hb] at h1
      exact ⟨_, by simp only [execOp, h1.v_inv, Op.unary, Op.intArith]; rfl, .cl .v⟩
    · trivial
  · rename_i s d x
    split
    · rename_i ts k n z hs hd hx
      have h1 := hop x (by simp [Op.operands])
      rw [hx] at h1
      obtain ⟨_, d1, _, _, hud1, _⟩ := tyOf_spec hs
      obtain ⟨_, d2, _, _, hud2, _, _, _, hdd2, _⟩ := tyOf_spec hd
      exact ⟨_, by simp [execOp, h1.v_inv, convert, run_underlying hud1, run_underlying (tdOf_int hdd2 ▸ hud2), Conv.intToInt], .cl .v⟩
    · exact PeSem.ofV fun y hy => cvS_ok (hop x (by simp [Op.operands])) hrows hy
  · rename_i x
    have h1 := hop x (by simp [Op.operands])
    cases hx : ρ x with
    | p r k off =>
      rw [hx] at h1
      generalize hu : ev x = u at h1
      have hrun : ∀ ad, u = .pointer (some ad) → (execOp ev ⟨dst, .nilCheck x, type, pos, after, guard⟩).run P w = .ok (.value u) w := fun ad e => by
        subst e
        simp [execOp, hu]
      cases h1 with
      | cl hc => cases hc
      | p hr hl => exact ⟨_, hrun _ rfl, .p hr hl⟩
    | ip cs =>
      rw [hx] at h1
      generalize hu : ev x = u at h1
      have hrun : ∀ ad, u = .pointer (some ad) → (execOp ev ⟨dst, .nilCheck x, type, pos, after, guard⟩).run P w = .ok (.value u) w := fun ad e => by
        subst e
        simp [execOp, hu]
      cases h1 with
      | cl hc =>
        cases hc with
        | ip b off u a1 a2 a3 a4 a5 => exact ⟨_, hrun _ rfl, .cl (.ip b off u a1 a2 a3 a4 a5)⟩
    | _ => trivial
  · rename_i t l c
    exact mkA_ok (hop l (by simp [Op.operands])) (hop c (by simp [Op.operands]))
  · rename_i f first caps
    split
    · rename_i hf
      have hfe : first = #[] := by simpa using hf
      subst hfe
      refine ⟨_, by simp [execOp, Instr.makeFunc], .fn (caps.map ev) (by simp) fun j a ha => ?_⟩
      rw [List.getElem?_map, Option.map_eq_some_iff] at ha
      obtain ⟨y, hy, rfl⟩ := ha
      have hy' : caps[j]? = some y := by simpa using hy
      have := hop y (by simp only [Op.operands, Array.empty_append]; exact Array.mem_of_getElem? hy')
      simpa [Array.getD_eq_getD_getElem?, hy'] using this
    · unfold bmA
      split
      · rename_i fs cs hfs hcs
        have h1 := valFs_ok first.toList fs hfs fun x hx => hop x (by simp only [Op.operands]; exact Array.mem_append_left _ (by simpa using hx))
        have h2 := valFs_ok caps.toList cs hcs fun x hx => hop x (by simp only [Op.operands]; exact Array.mem_append_right _ (by simpa using hx))
        have e1 : first.map ev = fs.toArray := Array.toList_inj.1 (by rw [Array.toList_map, h1])
        have e2 : caps.map ev = cs.toArray := Array.toList_inj.1 (by rw [Array.toList_map, h2])
        refine ⟨.func (.func f) fs.toArray cs.toArray, by simp [execOp, Instr.makeFunc, e1, e2], ?_⟩
        exact .cl .v
      · trivial
  · rename_i t x lo hi
    have g1 := opt_hyp (ev := ev) (ρ := ρ) (h := h) (loc := loc) (w := w) (l := lo) (fun y hy => hop y (by simp [Op.operands, hy]))
    have g2 := opt_hyp (ev := ev) (ρ := ρ) (h := h) (loc := loc) (w := w) (l := hi) (fun y hy => hop y (by simp [Op.operands, hy]))
    exact PeSem.ofV fun y hy => slA_ok (hop x (by simp [Op.operands])) hrows g1.1 g1.2 g2.1 g2.2 hy
  · rename_i t x f
    exact PeSem.ofV fun y hy => faA_ok (hop x (by simp [Op.operands])) hy
  · rename_i t x f
    exact PeSem.ofV fun y hy => fdA_ok (hop x (by simp [Op.operands])) hy
  · rename_i t x i
    exact PeSem.ofV fun y hy => ixA_ok (hop x (by simp [Op.operands])) (hop i (by simp [Op.operands])) hy
  · rename_i t x i
    split
    · rename_i z s k n ht hx hi
      split
      · rename_i h0
        split
        · rename_i b hb
          have h1 := hop x (by simp [Op.operands])
          rw [hx] at h1
          have h2 := hop i (by simp [Op.operands])
          rw [hi] at h2
          obtain ⟨_, d1, _, _, hud1, _, _, _, hdd1, _⟩ := tyOf_spec ht
          exact ⟨_, by simp [execOp, h1.v_inv, h2.v_inv, Instr.index, asIntOf, run_underlying (tdOf_string hdd1 ▸ hud1), h0, hb], .cl .v⟩
        · trivial
      · trivial
    · trivial
  · rename_i x i
    split
    · rename_i vs hx
      have h1 := hop x (by simp [Op.operands])
      rw [hx] at h1
      obtain ⟨us, hu, hs, hg⟩ := h1.tup_inv
      exact PeSem.ofV fun y hy => by
        have hlt := lt_of_some hy
        have h2 : i < us.size := by omega
        refine ⟨us[i], by simp [hu, Instr.extract, h2], ?_⟩
        have := hg i y hy
        rwa [Array.getD, dif_pos h2] at this
    · trivial
  · rename_i c
    obtain ⟨callee, args, ats⟩ := c
    simp only
    obtain ⟨args⟩ := args
    obtain ⟨ats⟩ := ats
    simp only
    unfold pcA
    split
    · rename_i x t
      have h1 := hop x (by simp [Op.operands, Call.operands])
      have : (execOp ev ⟨dst, .call ⟨.builtin .len, ⟨[x]⟩, ⟨[t]⟩⟩, type, pos, after, guard⟩) = (do pure (.value (← Builtin.len_ #[t] type #[ev x]))) := by
        simp [execOp, resolve, invoke, builtin]
      rw [this]
      exact PeSem.ofV fun y hy => lnA_ok h1 hy
    · rename_i x y
      split
      · rename_i k a k' b hx hy
        have h1 := hop x (by simp [Op.operands, Call.operands])
        have h2 := hop y (by simp [Op.operands, Call.operands])
        rw [hx] at h1
        rw [hy] at h2
        refine ⟨_, ?_, .cl .v⟩
        simp [execOp, resolve, invoke, builtin, h1.v_inv, h2.v_inv, Builtin.min_, Builtin.min2]
      · trivial
    · trivial
  · trivial

end Go.Proofs.YtccifbbjbnjcfaaGreatDoor
/-
  The abstract machine: how states go on: a slot is put, a row is laid, the world grows.
-/
namespace Go.Proofs.YtccifbbjbnjcfaaGreatDoor
open Go Go.RowKit

section
variable {w0 : World} {lent : Lent} {s : AS} {loc : Loc} {a : Act} {w : World}

def AS.put (s : AS) (d : Option Tmp) (x : AV) : AS :=
  match d with
  | some d => ⟨setA s.t d x, s.h⟩
  | none => s
theorem AS.put_h (s : AS) (d : Option Tmp) (x : AV) : (s.put d x).h = s.h := by cases d <;> rfl

theorem Rel.put (hR : Rel w0 lent s loc a w) (d : Option Tmp) {x : AV} {u : Value} (hx : G s.h loc w x u) : Rel w0 lent (s.put d x) loc (a.put d u) w := by
  cases d with
  | none => exact hR
  | some d =>
    refine ⟨?_, fun i y hy => ?_, hR.df, hR.rw, hR.inj, hR.own, hR.os, hR.tape, hR.output, hR.size, hR.keep, hR.fbe, hR.fbl, hR.pn, hR.pl⟩
    · simp only [AS.put, Act.put, setA_eq, Array.size_setIfInBounds, List.length_set]; exact hR.tsz
    · simp only [AS.put, setA_eq] at hy
      simp only [Act.put, Array.getD_eq_getD_getElem?, Array.getElem?_setIfInBounds]
      by_cases hdi : d = i
      · subst hdi
        have hlt := lt_of_some hy
        rw [List.length_set] at hlt
        rw [List.getElem?_set_self hlt] at hy
        cases hy
        have : d < a.tmps.size := by rw [hR.tsz]; exact hlt
        rw [if_pos rfl, if_pos this]
        exact hx
      · rw [List.getElem?_set_ne hdi] at hy
        rw [if_neg hdi, ← Array.getD_eq_getD_getElem?]
        exact hR.tm i y hy

theorem RowOk.mono {h h' : Hp} {loc' : Loc} {w' : World} {r : Nat} {row : Row} (hr : RowOk h loc w r row) (hl : loc' r = loc r) (hb : ∀ b c, loc r = some (b, c) → w'.heap[b]? = w.heap[b]?)
    (hg : ∀ x u, G h loc w x u → G h' loc' w' x u) (hcl : ∀ x u, C (Live h loc) 0 w x u → C (Live h' loc') 0 w' x u) : RowOk h' loc' w' r row := by
  obtain ⟨h1, xs, hown, hcs⟩ := hr
  refine ⟨h1, xs, ⟨hown.1, ?_⟩, fun k e j a he ha => ?_⟩
  · rcases hown.2 with ⟨e1, e2⟩ | ⟨g, cap, cur, e1, hb0, hh, rest⟩
    · exact .inl ⟨by simpa [rowVal, hl] using e1, e2⟩
    · refine .inr ⟨g, cap, cur, by simpa [rowVal, hl] using e1, hb0, ?_, rest⟩
      unfold rowVal at e1
      cases hlr : loc r with
      | none => simp [hlr] at e1
      | some bc =>
        obtain ⟨b, c⟩ := bc
        simp only [hlr, Value.slice.injEq, Option.some.injEq, Addr.mk.injEq] at e1
        rw [← e1.1.1, hb b c hlr, e1.1.1]
        exact hh
  · obtain ⟨u, h2, h3, h4, h5⟩ := hcs k e j a he ha
    exact ⟨u, h2, h3, hg _ _ h4, fun hc => hcl _ _ (h5 hc)⟩

theorem Live.lt {h : Hp} {b : Nat} (hrows : ∀ r row, hget h r = some row → RowOk h loc w r row) (hl : LiveR h loc b) : b < w.heap.size := by
  obtain ⟨r, row, c, h1, h2⟩ := hl
  obtain ⟨_, xs, hown, _⟩ := hrows r row h1
  exact (hown.lt b (by simp [rowVal, h2, Value.ownBlock])).2

/-- The world grows: no old block turns. -/
theorem Rel.grow {w' : World} (hR : Rel w0 lent s loc a w) (hb : Below w.heap.size w w') : Rel w0 lent s loc a w' := by
  have hg : ∀ x u, G s.h loc w x u → G s.h loc w' x u := fun x u hx =>
    hx.mono hb.size (fun q row hq => ⟨rfl, row, hq, rfl, Nat.le_refl _⟩) fun b hlt hl => ⟨hl, hb.block b hlt⟩
  have hcl : ∀ x u, C (Live s.h loc) 0 w x u → C (Live s.h loc) 0 w' x u := fun x u hx => hx.mono (Nat.le_refl _) hb.size fun b _ hlt hl => ⟨hl, hb.block b hlt⟩
  exact ⟨hR.tsz, fun i x hx => hg _ _ (hR.tm i x hx), hR.df, fun r row hr => (hR.rw r row hr).mono rfl (fun b c hl => hb.block b (Live.lt hR.rw ⟨r, row, c, hr, hl⟩)) hg hcl, hR.inj, hR.own,
    hb.os.trans hR.os, hb.tape.trans hR.tape, hb.output.trans hR.output, Nat.le_trans hR.size hb.size, fun b hlt hl => (hb.block b (Nat.lt_of_lt_of_le hlt hR.size)).trans (hR.keep b hlt hl), hR.fbe, hR.fbl, hR.pn, hR.pl⟩

/-- A new row under a new name. -/
def locSet (loc : Loc) (r : Nat) (x : Option (Nat × Nat)) : Loc := ⟨fun q => if q = r then x else loc q, loc.fb⟩

theorem pin_set (hR : Rel w0 lent s loc a w) {r : Nat} (hp : lent.pin r = none) (x : Option (Nat × Nat)) : ∀ q p, lent.pin q = some p → locSet loc r x q = p := fun q p h => by
  have : q ≠ r := fun e => by rw [e, hp] at h; cases h
  simp only [locSet, if_neg this]
  exact hR.pn q p h
/-- Names below the pins. -/
theorem pin_lo (hR : Rel w0 lent s loc a w) {r : Nat} (h : r < 500000 ∨ 600000 ≤ r) : lent.pin r = none := by
  cases hp : lent.pin r with
  | none => rfl
  | some p => have := hR.pl r p hp; omega

theorem Rel.lay (hR : Rel w0 lent s loc a w) (r : Nat) (row : Row) (cs : Array Value) (hr : hget s.h r = none) (hn : NewRow s.h loc w row cs) (hm : row.es.length ≤ maxLen) (hp : lent.pin r = none) :
    Rel w0 lent ⟨s.t, hset s.h r row⟩ (locSet loc r (some (w.heap.size, row.es.length))) a (w.alloc (.cells cs row.E)) ∧
      hget (hset s.h r row) r = some row ∧ locSet loc r (some (w.heap.size, row.es.length)) r = some (w.heap.size, row.es.length) := by
  have hne : ∀ q row', hget s.h q = some row' → q ≠ r := fun q row' hq e => by rw [e, hr] at hq; cases hq
  have hlive : ∀ b, Live (hset s.h r row) (locSet loc r (some (w.heap.size, row.es.length))) b → b = w.heap.size ∨ Live s.h loc b := by
    rintro b (⟨q, row', c, h1, h2⟩ | hfb)
    case inr => first | exact .inr (.inr hfb) | exact .inr hfb
    rw [hget_hset] at h1
    by_cases hq : r = q
    · subst hq
      simp [locSet] at h2
      exact .inl h2.1.symm
    · rw [if_neg hq] at h1
      simp only [locSet, if_neg (Ne.symm hq)] at h2
      exact .inr (.inl ⟨q, row', c, h1, h2⟩)
  have hcl : ∀ x u, C (Live s.h loc) 0 w x u → C (Live (hset s.h r row) (locSet loc r (some (w.heap.size, row.es.length)))) 0 (w.alloc (.cells cs row.E)) x u := fun x u hx =>
    hx.mono (Nat.le_refl _) (by simp) fun b _ hlt hl =>
      ⟨fun h => by rcases hlive b h with h1 | h1; · omega
                   · exact hl h1, heap_alloc_old w _ hlt⟩
  have hg : ∀ x u, G s.h loc w x u → G (hset s.h r row) (locSet loc r (some (w.heap.size, row.es.length))) (w.alloc (.cells cs row.E)) x u := fun x u hx =>
    hx.mono (by simp) (fun q row' hq => ⟨by simp [locSet, hne q row' hq], row', by rw [hget_hset, if_neg (Ne.symm (hne q row' hq))]; exact hq, rfl, Nat.le_refl _⟩) fun b hlt hl =>
      ⟨fun h => by rcases hlive b h with h1 | h1; · omega
                   · exact hl h1, heap_alloc_old w _ hlt⟩
  refine ⟨⟨hR.tsz, fun i x hx => hg _ _ (hR.tm i x hx), hR.df, fun q row' hq => ?_, fun q q' row1 row2 b c c' h1 h2 h3 h4 => ?_, fun q row' b c h1 h2 => ?_, hR.os, hR.tape, hR.output, by simp; exact Nat.le_succ_of_le hR.size, fun b hlt hl => ?_, hR.fbe, hR.fbl, pin_set hR hp _, hR.pl⟩, by rw [hget_hset, if_pos rfl], by simp [locSet]⟩
  · rw [hget_hset] at hq
    by_cases hrq : r = q
    · subst hrq
      rw [if_pos rfl] at hq
      cases hq
      obtain ⟨hn0, hn1, hn2, hn3⟩ := hn
      refine ⟨hn2, cs.toList, ⟨by rw [Array.length_toList]; exact hn1, .inr ⟨w.heap.size, row.es.length, cs, by simp [rowVal, locSet], Nat.zero_le _, heap_alloc_new w _, Nat.le_refl _, hm, hn1, by rw [← hn1, ← Array.length_toList, List.take_length]⟩⟩, fun k e j a he ha => ?_⟩
      obtain ⟨u, h1, h2, h3⟩ := hn3 k e j a he ha
      exact ⟨u, by simpa using h1, h2, hg _ _ h3, fun hc => by
        have := hn0 hc e (List.mem_of_getElem? he) a (List.mem_of_getElem? ha)
        refine hcl _ _ ?_
        cases h3 with
        | cl h => exact h
        | _ => simp [isC] at this⟩
    · rw [if_neg hrq] at hq
      exact (hR.rw q row' hq).mono (by simp [locSet, Ne.symm hrq]) (fun b c hl => heap_alloc_old w _ (Live.lt hR.rw ⟨q, row', c, hq, hl⟩)) hg hcl
  · rw [hget_hset] at h1 h2
    by_cases e1 : r = q
    · subst e1
      simp [locSet] at h3
      by_cases e2 : r = q'
      · exact e2
      · rw [if_neg e2] at h2
        simp only [locSet, if_neg (Ne.symm e2)] at h4
        have := Live.lt hR.rw ⟨q', row2, c', h2, h4⟩
        omega
    · rw [if_neg e1] at h1
      simp only [locSet, if_neg (Ne.symm e1)] at h3
      by_cases e2 : r = q'
      · subst e2
        simp [locSet] at h4
        have := Live.lt hR.rw ⟨q, row1, c, h1, h3⟩
        omega
      · rw [if_neg e2] at h2
        simp only [locSet, if_neg (Ne.symm e2)] at h4
        exact hR.inj q q' row1 row2 b c c' h1 h2 h3 h4
  · rw [hget_hset] at h1
    by_cases e1 : r = q
    · subst e1
      simp [locSet] at h2
      exact .inl (by have := hR.size; omega)
    · rw [if_neg e1] at h1
      simp only [locSet, if_neg (Ne.symm e1)] at h2
      exact hR.own q row' b c h1 h2
  · exact (heap_alloc_old w _ (Nat.lt_of_lt_of_le hlt hR.size)).trans (hR.keep b hlt hl)

/-- A nil slice under a new name. -/
theorem Rel.layNil (hR : Rel w0 lent s loc a w) (r : Nat) (row : Row) (hr : hget s.h r = none) (he : row.es = []) (hp : lent.pin r = none) :
    Rel w0 lent ⟨s.t, hset s.h r row⟩ (locSet loc r none) a w ∧ hget (hset s.h r row) r = some row ∧ locSet loc r none r = none := by
  have hne : ∀ q row', hget s.h q = some row' → q ≠ r := fun q row' hq e => by rw [e, hr] at hq; cases hq
  have hlive : ∀ b, Live (hset s.h r row) (locSet loc r none) b → Live s.h loc b := by
    rintro b (⟨q, row', c, h1, h2⟩ | hfb)
    case inr => first | exact .inr (.inr hfb) | exact .inr hfb
    rw [hget_hset] at h1
    by_cases hq : r = q
    · subst hq
      simp [locSet] at h2
    · rw [if_neg hq] at h1
      simp only [locSet, if_neg (Ne.symm hq)] at h2
      exact .inl ⟨q, row', c, h1, h2⟩
  have hcl : ∀ x u, C (Live s.h loc) 0 w x u → C (Live (hset s.h r row) (locSet loc r none)) 0 w x u := fun x u hx => hx.mono (Nat.le_refl _) (Nat.le_refl _) fun b _ hlt hl => ⟨fun h => hl (hlive b h), rfl⟩
  have hg : ∀ x u, G s.h loc w x u → G (hset s.h r row) (locSet loc r none) w x u := fun x u hx =>
    hx.mono (Nat.le_refl _) (fun q row' hq => ⟨by simp [locSet, hne q row' hq], row', by rw [hget_hset, if_neg (Ne.symm (hne q row' hq))]; exact hq, rfl, Nat.le_refl _⟩) fun b hlt hl => ⟨fun h => hl (hlive b h), rfl⟩
  refine ⟨⟨hR.tsz, fun i x hx => hg _ _ (hR.tm i x hx), hR.df, fun q row' hq => ?_, fun q q' row1 row2 b c c' h1 h2 h3 h4 => ?_, fun q row' b c h1 h2 => ?_, hR.os, hR.tape, hR.output, hR.size, hR.keep, hR.fbe, hR.fbl, pin_set hR hp _, hR.pl⟩, by rw [hget_hset, if_pos rfl], by simp [locSet]⟩
  · rw [hget_hset] at hq
    by_cases hrq : r = q
    · subst hrq
      rw [if_pos rfl] at hq
      cases hq
      refine ⟨fun k e hk => by rw [he] at hk; simp at hk, [], ⟨by rw [he]; simp, .inl ⟨by simp [rowVal, locSet], by rw [he]; rfl⟩⟩, fun k e j a hk => by rw [he] at hk; simp at hk⟩
    · rw [if_neg hrq] at hq
      exact (hR.rw q row' hq).mono (by simp [locSet, Ne.symm hrq]) (fun b c hl => rfl) hg hcl
  · rw [hget_hset] at h1 h2
    by_cases e1 : r = q
    · subst e1
      simp [locSet] at h3
    · rw [if_neg e1] at h1
      simp only [locSet, if_neg (Ne.symm e1)] at h3
      by_cases e2 : r = q'
      · subst e2
        simp [locSet] at h4
      · rw [if_neg e2] at h2
        simp only [locSet, if_neg (Ne.symm e2)] at h4
        exact hR.inj q q' row1 row2 b c c' h1 h2 h3 h4
  · rw [hget_hset] at h1
    by_cases e1 : r = q
    · subst e1
      simp [locSet] at h2
    · rw [if_neg e1] at h1
      simp only [locSet, if_neg (Ne.symm e1)] at h2
      exact hR.own q row' b c h1 h2
end

end Go.Proofs.YtccifbbjbnjcfaaGreatDoor
/-
  The abstract machine: a store; an append.
-/
namespace Go.Proofs.YtccifbbjbnjcfaaGreatDoor
open Go Go.RowKit

section
variable {w0 : World} {lent : Lent} {s : AS} {loc : Loc} {a : Act} {w : World}

theorem RowOk.open {h : Hp} {r : Nat} {row : Row} {b c : Nat} (hr : RowOk h loc w r row) (hl : loc r = some (b, c)) :
    (∀ (k : Nat) e, row.es[k]? = some e → e.length = row.sz) ∧ row.es.length ≤ c ∧ c ≤ maxLen ∧ ∃ cur : Array Value, w.heap[b]? = some (.cells cur row.E (0, 0)) ∧ cur.size = c * row.sz ∧
      ∀ (k : Nat) e (j : Nat) x, row.es[k]? = some e → e[j]? = some x → ∃ u, cur[k * row.sz + j]? = some u ∧ u.oneCell' = true ∧ G h loc w x u ∧ (row.cl = true → C (Live h loc) 0 w x u) := by
  obtain ⟨h1, xs, hown, hcs⟩ := hr
  simp only [rowVal, hl] at hown
  rcases hown.2 with ⟨e1, _⟩ | ⟨g, cap, cur, e1, _, hh, hn, hm, hs, ht⟩
  · cases e1
  · cases e1
    refine ⟨h1, hn, hm, cur, hh, hs, fun k e j x he hx => ?_⟩
    obtain ⟨u, h2, h3⟩ := hcs k e j x he hx
    refine ⟨u, ?_, h3⟩
    rw [← ht, List.getElem?_take] at h2
    split at h2
    · simpa using h2
    · cases h2

theorem ix_lt {k n sz j : Nat} (hk : k < n) (hj : j < sz) : k * sz + j < n * sz := by
  have := Nat.mul_le_mul_right sz (show k + 1 ≤ n from hk)
  rw [Nat.add_mul] at this
  omega

theorem RowOk.mk' {h : Hp} {r : Nat} {row : Row} {b c : Nat} {cur : Array Value} (hl : loc r = some (b, c)) (h1 : ∀ (k : Nat) e, row.es[k]? = some e → e.length = row.sz) (hn : row.es.length ≤ c) (hm : c ≤ maxLen)
    (hh : w.heap[b]? = some (.cells cur row.E (0, 0))) (hs : cur.size = c * row.sz)
    (hcs : ∀ (k : Nat) e (j : Nat) x, row.es[k]? = some e → e[j]? = some x → ∃ u, cur[k * row.sz + j]? = some u ∧ u.oneCell' = true ∧ G h loc w x u ∧ (row.cl = true → C (Live h loc) 0 w x u)) : RowOk h loc w r row := by
  refine ⟨h1, cur.toList.take (row.es.length * row.sz), ⟨?_, .inr ⟨b, c, cur, by simp [rowVal, hl], Nat.zero_le _, hh, hn, hm, hs, rfl⟩⟩, fun k e j x he hx => ?_⟩
  · rw [List.length_take, Array.length_toList, hs]
    have := Nat.mul_le_mul_right row.sz hn
    omega
  · obtain ⟨u, h2, h3⟩ := hcs k e j x he hx
    refine ⟨u, ?_, h3⟩
    have hj := lt_of_some hx
    rw [h1 k e he] at hj
    rw [List.getElem?_take, if_pos (ix_lt (lt_of_some he) hj)]
    simpa using h2

/-- A nil slice that is stored reads as an empty one. -/
def nilFix (P : Program) (t : TypeId) (x : AV) : AV :=
  match x with
  | .v (.slice none 0 0) => (match tyOf P t with
    | some ⟨_, _, .slice e, _⟩ => (match tyOf P e with
      | some te => .sl te.size []
      | none => x)
    | _ => x)
  | y => y
theorem C.nilsl {lv : Nat → Prop} {lo : Nat} {w : World} (sz : Nat) : C lv lo w (.sl sz []) (.slice none 0 0) :=
  .sl (A := none) (es := []) [] (fun _ _ => undef) Rd.nil (fun h => by simp at h) (Nat.le_refl _) (Nat.zero_le _) (fun k e h => by simp at h) (fun k e j h => by simp at h) (fun k e j a h => by simp at h)
theorem nilFix_ok {P : Program} {t : TypeId} {h : Hp} {x : AV} {u : Value} (hx : G h loc w x u) : G h loc w (nilFix P t x) u := by
  unfold nilFix
  split
  · rw [hx.v_inv]
    split
    · split
      · exact .cl (.nilsl _)
      · exact .cl .v
    · exact .cl .v
  · exact hx

theorem isC_ok {h : Hp} {x : AV} {u : Value} (hx : G h loc w x u) (hc : isC x = true) : C (Live h loc) 0 w x u := by
  cases hx with
  | cl h => exact h
  | _ => simp [isC] at hc

/-- A store. -/
def stA (P : Program) (h : Hp) (t : TypeId) (x y : AV) : Option Hp :=
  match x, clA (nilFix P t y), tyOf P t with
  | .p r k off, some cs, some ty =>
    if ty.size = cs.length then (match hget h r with
      | some row => (match row.es[k]? with
        | some e => if off + cs.length ≤ e.length then some (hset h r ⟨row.E, row.sz, row.es.set k (spl e off cs), row.cl && cs.all isC⟩) else none
        | none => none)
      | none => none) else none
  | _, _, _ => none

theorem spl_val (cur : Array Value) (o : Nat) (vs : List Value) (q : Nat) (h : o + vs.length ≤ cur.size) :
    ((cur.toList.take o ++ vs ++ cur.toList.drop (o + vs.length)).toArray)[q]? = if o ≤ q ∧ q < o + vs.length then vs[q - o]? else cur[q]? := by
  rw [List.getElem?_toArray, List.append_assoc]
  by_cases h1 : q < o
  · rw [List.getElem?_append_left (by simp; omega), List.getElem?_take, if_pos h1, if_neg (by omega)]
    simp
  · rw [List.getElem?_append_right (by simp; omega)]
    have e : (cur.toList.take o).length = o := by simp; omega
    rw [e]
    by_cases h2 : q - o < vs.length
    · rw [List.getElem?_append_left h2, if_pos ⟨by omega, by omega⟩]
    · rw [List.getElem?_append_right (by omega), List.getElem?_drop, if_neg (by omega)]
      rw [show o + vs.length + (q - o - vs.length) = q from by omega]
      simp

theorem stA_ok {P : Program} {t : TypeId} {x y : AV} {u v : Value} {h' : Hp} (hR : Rel w0 lent s loc a w) (hx : G s.h loc w x u) (hy : G s.h loc w y v) (hd : stA P s.h t x y = some h') :
    ∃ w', (Instr.storeAt t u v).run P w = .ok () w' ∧ Rel w0 lent ⟨s.t, h'⟩ loc a w' := by
  unfold stA at hd
  split at hd
  · rename_i r k off cs ty hcl hty
    split at hd
    · rename_i hsz
      split at hd
      · rename_i row hrow
        split at hd
        · rename_i e he
          split at hd
          · rename_i hle
            cases hd
            have hrk := hR.rw r row hrow
            cases hx with
            | cl hc => cases hc
            | @p _ _ _ row' b c hr hl =>
              rw [hrow] at hr
              cases hr
              obtain ⟨hlen, hn, hm, cur, hh, hs, hcells⟩ := hrk.open hl
              obtain ⟨g1, g2, g3⟩ := clA_ok (nilFix_ok (P := P) (t := t) hy) hcl
              obtain ⟨i, d, z, hi, _, _, hsi, _⟩ := tyOf_spec hty
              have hek := hlen k e he
              have hkl := lt_of_some he
              have hcl2 := Nat.mul_le_mul_right row.sz (show k + 1 ≤ c by omega)
              rw [Nat.add_mul] at hcl2
              have hfit : k * row.sz + off + v.cells.toList.length ≤ cur.size := by
                rw [hs, Array.length_toList, g1]; omega
              have hst := run_storeCells_at P b (k * row.sz + off) row.E v.cells.toList 0 cur w hh (by simpa using hfit) (fun x hx => g3 x (by simpa using hx))
              simp only [Nat.add_zero] at hst
              refine ⟨_, by simp only [Instr.storeAt, Instr.sureAddr, storeVar, Sem.run_bind, Sem.run_pure, Result.andThen_ok, sizeOf, typeInfo, run_program, hi]; rw [if_neg (by simp; omega)]; exact hst, ?_⟩
              have hset' : ∀ q row1, hget s.h q = some row1 → ∃ row2, hget (hset s.h r ⟨row.E, row.sz, row.es.set k (spl e off cs), row.cl && cs.all isC⟩) q = some row2 ∧ row2.sz = row1.sz ∧ row1.es.length ≤ row2.es.length := by
                intro q row1 hq
                rw [hget_hset]
                by_cases hrq : r = q
                · subst hrq
                  rw [hrow] at hq
                  cases hq
                  rw [if_pos rfl]
                  exact ⟨_, rfl, rfl, by simp⟩
                · rw [if_neg hrq]
                  exact ⟨row1, hq, rfl, Nat.le_refl _⟩
              have hlive : ∀ b', Live (hset s.h r ⟨row.E, row.sz, row.es.set k (spl e off cs), row.cl && cs.all isC⟩) loc b' ↔ Live s.h loc b' := by
                intro b'
                constructor
                · rintro (⟨q, row1, c1, h1, h2⟩ | hfb)
                  · rw [hget_hset] at h1
                    by_cases hrq : r = q
                    · subst hrq; exact .inl ⟨r, row, c1, hrow, h2⟩
                    · rw [if_neg hrq] at h1; exact .inl ⟨q, row1, c1, h1, h2⟩
                  · exact .inr hfb
                · rintro (⟨q, row1, c1, h1, h2⟩ | hfb)
                  · obtain ⟨row2, h3, _⟩ := hset' q row1 h1
                    exact .inl ⟨q, row2, c1, h3, h2⟩
                  · exact .inr hfb
              have hbl : Live s.h loc b := .inl ⟨r, row, c, hrow, hl⟩
              have hold : ∀ b', b' < w.heap.size → ¬ Live s.h loc b' → (w.setRow b (cur.toList.take (k * row.sz + off) ++ v.cells.toList ++ cur.toList.drop (k * row.sz + off + v.cells.toList.length)).toArray).heap[b']? = w.heap[b']? := fun b' _ hnl =>
                setRow_other w b b' _ (fun e => hnl (e ▸ hbl))
              have hC : ∀ x u, C (Live s.h loc) 0 w x u → C (Live (hset s.h r ⟨row.E, row.sz, row.es.set k (spl e off cs), row.cl && cs.all isC⟩) loc) 0 _ x u := fun x u hx =>
                hx.mono (w' := w.setRow b (cur.toList.take (k * row.sz + off) ++ v.cells.toList ++ cur.toList.drop (k * row.sz + off + v.cells.toList.length)).toArray) (Nat.le_refl _) (by simp) fun b' _ hlt hnl => ⟨fun h => hnl ((hlive b').1 h), hold b' hlt hnl⟩
              have hG : ∀ x u, G s.h loc w x u → G (hset s.h r ⟨row.E, row.sz, row.es.set k (spl e off cs), row.cl && cs.all isC⟩) loc _ x u := fun x u hx =>
                hx.mono (w' := w.setRow b (cur.toList.take (k * row.sz + off) ++ v.cells.toList ++ cur.toList.drop (k * row.sz + off + v.cells.toList.length)).toArray) (by simp) (fun q row1 hq => ⟨rfl, hset' q row1 hq⟩) fun b' hlt hnl => ⟨fun h => hnl ((hlive b').1 h), hold b' hlt hnl⟩
              refine ⟨hR.tsz, fun i x hx => hG _ _ (hR.tm i x hx), hR.df, fun q row1 hq => ?_, fun q q' row1 row2 b1 c1 c2 h1 h2 h3 h4 => ?_, fun q row1 b1 c1 h1 h2 => ?_, hR.os, hR.tape, hR.output, by simp; exact hR.size, fun b1 hlt hlb => ?_, hR.fbe, hR.fbl, hR.pn, hR.pl⟩
              · simp only at hq
                rw [hget_hset] at hq
                by_cases hrq : r = q
                · subst hrq
                  rw [if_pos rfl] at hq
                  cases hq
                  refine RowOk.mk' hl (fun k' e' he' => ?_) (by simpa using hn) hm (setRow_heap w b cur _ row.E (0, 0) hh) ?_ (fun k' e' j x he' hx => ?_)
                  · simp only at he'
                    by_cases hkk : k = k'
                    · subst hkk
                      rw [List.getElem?_set_self hkl] at he'
                      cases he'
                      rw [spl_len _ _ _ hle]; exact hek
                    · rw [List.getElem?_set_ne hkk] at he'
                      exact hlen k' e' he'
                  · simp only [List.size_toArray, List.length_append, List.length_take, List.length_drop, Array.length_toList] at hfit ⊢
                    rw [← hs]; omega
                  · simp only at he'
                    have hsv := spl_val cur (k * row.sz + off) v.cells.toList (k' * row.sz + j) hfit
                    simp only [hsv]
                    by_cases hkk : k = k'
                    · subst hkk
                      rw [List.getElem?_set_self hkl] at he'
                      cases he'
                      rw [spl_get _ _ _ _ hle] at hx
                      split at hx
                      · rename_i hj
                        obtain ⟨u', q1, q2, q3⟩ := g2 _ x hx
                        have hlt := lt_of_some hx
                        refine ⟨u', ?_, q2, hG _ _ q3, fun hc => hC _ _ (isC_ok q3 ?_)⟩
                        · rw [if_pos ⟨by omega, by rw [Array.length_toList, g1]; omega⟩, show k * row.sz + j - (k * row.sz + off) = j - off from by omega]
                          simpa using q1
                        · simp only [Bool.and_eq_true] at hc
                          exact List.all_eq_true.1 hc.2 x (List.mem_of_getElem? hx)
                      · rename_i hj
                        obtain ⟨u', q1, q2, q3, q4⟩ := hcells k e j x he hx
                        refine ⟨u', ?_, q2, hG _ _ q3, fun hc => hC _ _ (q4 (by simp only [Bool.and_eq_true] at hc; exact hc.1))⟩
                        rw [if_neg (by rw [Array.length_toList, g1]; omega)]
                        exact q1
                    · rw [List.getElem?_set_ne hkk] at he'
                      obtain ⟨u', q1, q2, q3, q4⟩ := hcells k' e' j x he' hx
                      have hj := lt_of_some hx
                      rw [hlen k' e' he'] at hj
                      refine ⟨u', ?_, q2, hG _ _ q3, fun hc => hC _ _ (q4 (by simp only [Bool.and_eq_true] at hc; exact hc.1))⟩
                      rw [if_neg]
                      · exact q1
                      · rw [Array.length_toList, g1]
                        rintro ⟨a1, a2⟩
                        rcases Nat.lt_or_ge k' k with h5 | h5
                        · have := ix_lt (sz := row.sz) h5 hj
                          omega
                        · have := Nat.mul_le_mul_right row.sz (show k + 1 ≤ k' by omega)
                          rw [Nat.add_mul] at this
                          omega
                · rw [if_neg hrq] at hq
                  refine (hR.rw q row1 hq).mono rfl (fun b1 c1 hl1 => setRow_other w b b1 _ (fun e => hrq ?_)) hG hC
                  subst e
                  exact hR.inj r q row row1 b1 c c1 hrow hq hl hl1
              · simp only at h1 h2
                rw [hget_hset] at h1 h2
                by_cases e1 : r = q <;> by_cases e2 : r = q'
                · rw [← e1, ← e2]
                · rw [if_neg e2] at h2
                  subst e1
                  exact hR.inj r q' row row2 b1 c1 c2 hrow h2 h3 h4
                · rw [if_neg e1] at h1
                  subst e2
                  exact hR.inj q r row1 row b1 c1 c2 h1 hrow h3 h4
                · rw [if_neg e1] at h1
                  rw [if_neg e2] at h2
                  exact hR.inj q q' row1 row2 b1 c1 c2 h1 h2 h3 h4
              · simp only at h1
                rw [hget_hset] at h1
                by_cases e1 : r = q
                · subst e1; exact hR.own r row b1 c1 hrow h2
                · rw [if_neg e1] at h1; exact hR.own q row1 b1 c1 h1 h2
              · rw [setRow_other w b b1 _ (fun e => ?_)]
                · exact hR.keep b1 hlt hlb
                · subst e
                  rcases hR.own r row b1 c hrow hl with h5 | h5
                  · omega
                  · exact hlb h5
          · cases hd
        · cases hd
      · cases hd
    · cases hd
  · cases hd
end

end Go.Proofs.YtccifbbjbnjcfaaGreatDoor
/-
  The abstract machine: an append.
-/
namespace Go.Proofs.YtccifbbjbnjcfaaGreatDoor
open Go Go.RowKit

def killRow (r : Nat) (row : Row) : Row := if row.cl then row else ⟨row.E, row.sz, row.es.map (·.map (killA r)), false⟩
def killH (r : Nat) (h : Hp) : Hp := h.map fun x => (x.1, killRow r x.2)
theorem hget_killH (r : Nat) : ∀ (h : Hp) (q : Nat), hget (killH r h) q = (hget h q).map (killRow r)
  | [], q => rfl
  | (k, x) :: l, q => by
    simp only [killH, List.map_cons, hget]
    split
    · rfl
    · exact hget_killH r l q
theorem killRow_sz (r : Nat) (row : Row) : (killRow r row).sz = row.sz := by unfold killRow; split <;> rfl
theorem killRow_E (r : Nat) (row : Row) : (killRow r row).E = row.E := by unfold killRow; split <;> rfl
theorem killRow_len (r : Nat) (row : Row) : (killRow r row).es.length = row.es.length := by unfold killRow; split <;> simp

/-- The elements that are appended; do they name no row? -/
def newsA (h : Hp) : AV → Option (List (List AV) × Nat × Bool × Option Nat)
  | .sl sz es => some (es, sz, true, none)
  | .o r m => (match hget h r with
    | some row => if m = row.es.length then some (row.es, row.sz, row.cl || row.es.all (·.all isC), some r) else none
    | none => none)
  | .q r lo z m => (match hget h r with
    | some row => if z = row.sz ∧ lo + m = row.es.length then some (row.es.drop lo, row.sz, row.cl || row.es.all (·.all isC), some r) else none
    | none => none)
  | _ => none

/-- The state behind an append onto the row r. -/
def apH (h : Hp) (r n : Nat) (row : Row) (news : List (List AV)) (c : Bool) : Hp :=
  hset (killH r h) r (if row.cl && c then ⟨row.E, row.sz, row.es.take n ++ news, true⟩ else ⟨row.E, row.sz, (row.es.take n ++ news).map (·.map (killA r)), false⟩)

section
variable {w0 : World} {lent : Lent} {s : AS} {loc : Loc} {a : Act} {w : World}

/-- What is appended: it reads as a list of values. -/
theorem newsA_ok {h : Hp} {x : AV} {u : Value} {news : List (List AV)} {sz : Nat} {c : Bool} {r2 : Option Nat} (hx : G h loc w x u) (hrows : ∀ r row, hget h r = some row → RowOk h loc w r row) (hd : newsA h x = some (news, sz, c, r2)) :
    ∃ A cp xs, u = .slice A news.length cp ∧ Rd w 0 sz A news.length xs ∧ (∀ (k : Nat) e, news[k]? = some e → e.length = sz) ∧
      ∀ (k : Nat) e (j : Nat) y, news[k]? = some e → e[j]? = some y → ∃ v, xs[k * sz + j]? = some v ∧ v.oneCell' = true ∧ G h loc w y v ∧ (c = true → C (Live h loc) 0 w y v) := by
  cases x with
  | sl sz' es =>
    simp only [newsA, Option.some.injEq, Prod.mk.injEq] at hd
    obtain ⟨rfl, rfl, rfl, rfl⟩ := hd
    cases hx with
    | cl hc =>
      cases hc with
      | sl xs u hr hlv hc hm hl hxx hg =>
        exact ⟨_, _, xs, rfl, hr, hl, fun k e j y he hy => by
          obtain ⟨h1, h2⟩ := hxx k e j he (lt_of_some hy)
          exact ⟨u k j, h1, h2, .cl (hg k e j y he hy), fun _ => hg k e j y he hy⟩⟩
  | o r m =>
    simp only [newsA] at hd
    split at hd
    · rename_i row hrow
      split at hd
      · rename_i hm
        simp only [Option.some.injEq, Prod.mk.injEq] at hd
        obtain ⟨rfl, rfl, rfl, rfl⟩ := hd
        obtain ⟨h1, xs, hown, hcs⟩ := hrows r row hrow
        have hcells : ∀ (k : Nat) e (j : Nat) y, row.es[k]? = some e → e[j]? = some y → ∃ v, xs[k * row.sz + j]? = some v ∧ v.oneCell' = true ∧ G h loc w y v ∧ ((row.cl || row.es.all (·.all isC)) = true → C (Live h loc) 0 w y v) := by
          intro k e j y he hy
          obtain ⟨v, q1, q2, q3, q4⟩ := hcs k e j y he hy
          refine ⟨v, q1, q2, q3, fun hc => ?_⟩
          rw [Bool.or_eq_true] at hc
          rcases hc with hc | hc
          · exact q4 hc
          · exact isC_ok q3 (List.all_eq_true.1 (List.all_eq_true.1 hc e (List.mem_of_getElem? he)) y (List.mem_of_getElem? hy))
        cases hx with
        | cl hc => cases hc
        | @o _ _ row' b c hr hl hn =>
          rw [hrow] at hr
          cases hr
          simp only [rowVal, hl] at hown
          subst hm
          exact ⟨_, _, xs, rfl, Rd.of_own hown, h1, hcells⟩
        | onil hr hl =>
          rw [hrow] at hr
          cases hr
          have he0 : row.es = [] := List.eq_nil_of_length_eq_zero hm.symm
          refine ⟨none, 0, xs, by rw [he0]; rfl, ?_, h1, hcells⟩
          have := hown.1
          rw [he0] at this ⊢
          refine ⟨this, fun h => by simp at h⟩
      · cases hd
    · cases hd
  | q r lo z m =>
    simp only [newsA] at hd
    split at hd
    · rename_i row hrow
      split at hd
      · rename_i hm
        obtain ⟨rfl, hm⟩ := hm
        simp only [Option.some.injEq, Prod.mk.injEq] at hd
        obtain ⟨rfl, rfl, rfl, rfl⟩ := hd
        obtain ⟨h1, xs, hown, hcs⟩ := hrows r row hrow
        have hlen : (row.es.drop lo).length = m := by rw [List.length_drop]; omega
        cases hx with
        | cl hc => cases hc
        | @q _ _ _ _ row' b c A c' hr hl hn =>
          rw [hrow] at hr
          cases hr
          simp only [rowVal, hl] at hown
          have hrd := Rd.of_own hown
          refine ⟨A, c', xs.drop (lo * row.sz), by rw [hlen], ⟨?_, fun h0 => ?_⟩, fun k e he => h1 (lo + k) e (by rwa [List.getElem?_drop] at he), fun k e j y he hy => ?_⟩
          · rw [List.length_drop, hrd.1, hlen, ← hm, Nat.add_mul]; omega
          · rw [hlen] at h0
            obtain ⟨b', off, e1, e2, e3, e4⟩ := hrd.2 (by omega)
            cases e1
            refine ⟨b, lo * row.sz, hn h0, e2, e3, fun j u hj => ?_⟩
            rw [List.getElem?_drop] at hj
            have := e4 _ u hj
            rwa [Nat.zero_add] at this
          · rw [List.getElem?_drop] at he
            obtain ⟨v, q1, q2, q3, q4⟩ := hcs (lo + k) e j y he hy
            refine ⟨v, ?_, q2, q3, fun hc => ?_⟩
            · rw [List.getElem?_drop, ← q1]; congr 1; rw [Nat.add_mul]; omega
            · rw [Bool.or_eq_true] at hc
              rcases hc with hc | hc
              · exact q4 hc
              · exact isC_ok q3 (List.all_eq_true.1 (List.all_eq_true.1 hc e (List.mem_of_getElem? he)) y (List.mem_of_getElem? hy))
      · cases hd
    · cases hd
  | _ => simp [newsA] at hd

theorem own_prefix {E : TypeId} {sz n m b c : Nat} {xs : List Value} (h : w.ownsRow 0 E sz (.slice (some ⟨b, 0, none⟩) m c) m xs) (hn : n ≤ m) : w.ownsRow 0 E sz (.slice (some ⟨b, 0, none⟩) n c) n (xs.take (n * sz)) := by
  have hle := Nat.mul_le_mul_right sz hn
  refine ⟨by rw [List.length_take, h.1]; omega, ?_⟩
  rcases h.2 with ⟨e, _⟩ | ⟨g, cap, cur, e, h1, h2, h3, h4, h5, h6⟩
  · cases e
  · cases e
    exact .inr ⟨_, _, cur, rfl, h1, h2, by omega, h4, h5, by rw [← h6, List.take_take, Nat.min_eq_left hle]⟩

/-- Where a slice value lies. -/
def valLoc : Value → Option (Nat × Nat)
  | .slice (some ad) _ c => some (ad.block, c)
  | _ => none

theorem own_val {E : TypeId} {sz n : Nat} {v : Value} {xs : List Value} (h : w.ownsRow 0 E sz v n xs) : v = (match valLoc v with | none => .slice none 0 0 | some (b, c) => .slice (some ⟨b, 0, none⟩) n c) ∧ (valLoc v = none → n = 0) := by
  rcases h.2 with ⟨rfl, h2⟩ | ⟨g, cap, cur, rfl, _⟩
  · exact ⟨rfl, fun _ => h2⟩
  · exact ⟨rfl, fun h => by simp [valLoc] at h⟩

theorem append_ok {P : Program} {t ty e : TypeId} {tt te : Ty} {r n : Nat} {row : Row} {x : AV} {u u2 : Value} {news : List (List AV)} {c : Bool} {r2 : Option Nat} (hR : Rel w0 lent s loc a w)
    (ht : tyOf P t = some tt) (htd : tt.desc = .slice e) (hte : tyOf P e = some te) (hz : te.zero.length = te.size) (hp : 0 < te.size) (hrow : hget s.h r = some row) (hE : row.E = e) (hsz : row.sz = te.size) (hu : G s.h loc w (.o r n) u) (hx : G s.h loc w x u2)
    (hd : newsA s.h x = some (news, te.size, c, r2)) (hb : (n + news.length) * te.bytes ≤ 140737488355328) (h63 : n + news.length ≤ maxLen) (hp0 : lent.pin r = none) :
    ∃ v' w' loc', (Builtin.append_ #[t, t] ty #[u, u2]).run P w = .ok v' w' ∧ Rel w0 lent ⟨s.t.map (killA r), apH s.h r n row news c⟩ loc' a w' ∧ G (apH s.h r n row news c) loc' w' (.o r (n + news.length)) v' := by
  obtain ⟨i1, d1, z1, hi1, hud1, _, _, _, hdd1, _⟩ := tyOf_spec ht
  have hud := tdOf_slice (hdd1.trans htd) ▸ hud1
  obtain ⟨i2, d2, z2, hi2, _, hz2, hs2, hb2, _, hzc⟩ := tyOf_spec hte
  obtain ⟨A, cp, xs2, rfl, hrd, hnl, hncs⟩ := newsA_ok hx hR.rw hd
  have hrk := hR.rw r row hrow
  obtain ⟨hlen, xs, hown, hcs⟩ := hrk
  -- the row's first n elements, owned
  have hn : n ≤ row.es.length := by
    cases hu with
    | cl hc => cases hc
    | o hr _ hn => rw [hrow] at hr; cases hr; exact hn
    | onil => exact Nat.zero_le _
  have hown1 : w.ownsRow 0 e te.size u n (xs.take (n * te.size)) ∧ (∀ b, u.ownBlock = some b → LiveR s.h loc b) := by
    cases hu with
    | cl hc => cases hc
    | @o _ _ row' b cc hr hl hn =>
      rw [hrow] at hr; cases hr
      simp only [rowVal, hl] at hown
      rw [hE, hsz] at hown
      exact ⟨own_prefix hown hn, fun b' hb' => by simp [Value.ownBlock] at hb'; subst hb'; exact ⟨r, row, cc, hrow, hl⟩⟩
    | onil hr hl =>
      refine ⟨⟨by simp, .inl ⟨rfl, rfl⟩⟩, fun b' hb' => by simp [Value.ownBlock] at hb'⟩
  obtain ⟨hown1, hublk⟩ := hown1
  have h1c : ∀ v ∈ xs2, v.oneCell' = true := by
    intro v hv
    obtain ⟨q, hq, rfl⟩ := List.getElem_of_mem hv
    have hl2 := hrd.1
    have hk : q / te.size < news.length := by rw [Nat.div_lt_iff_lt_mul hp]; omega
    have he := List.getElem?_eq_getElem hk
    have hj : q % te.size < (news[q / te.size]).length := by rw [hnl _ _ he]; exact Nat.mod_lt _ hp
    obtain ⟨v', g1, g2, _⟩ := hncs _ _ _ _ he (List.getElem?_eq_getElem hj)
    rw [Nat.mul_comm, Nat.div_add_mod, List.getElem?_eq_getElem hq] at g1
    cases g1
    exact g2
  obtain ⟨v', w', hrun, hown', hgrow, hblk⟩ := run_append_rd (P := P) w 0 t ty e i2 z2 te.size te.bytes hud hi2 hz2 hs2 hb2 (by rw [← hz, ← hzc]; simp) hp u n _ hown1 0 A news.length cp xs2 hrd h1c h63 hb (Nat.zero_le _)
  obtain ⟨hv', hv0⟩ := own_val hown'
  refine ⟨v', w', locSet loc r (valLoc v'), hrun, ?_⟩
  have hgr : ∀ b, b < w.heap.size → ¬ Live s.h loc b → w'.heap[b]? = w.heap[b]? := fun b hlt hnl => hgrow.block b hlt (fun e => hnl (.inl (hublk b e.symm)))
  have hgr2 : ∀ q rowq b cc, q ≠ r → hget s.h q = some rowq → loc q = some (b, cc) → w'.heap[b]? = w.heap[b]? := fun q rowq b cc hq h1 h2 =>
    hgrow.block b (Live.lt hR.rw ⟨q, rowq, cc, h1, h2⟩) (fun e => hq (by
      obtain ⟨q', rowq', c', h3, h4⟩ := hublk b e.symm
      have : u.ownBlock = some b := e.symm
      cases hu with
      | cl hc => cases hc
      | @o _ _ row' b' cc' hr hl hn =>
        simp [Value.ownBlock] at this
        subst this
        exact hR.inj q r rowq row' _ _ _ h1 hr h2 hl
      | onil => simp [Value.ownBlock] at this))
  have hnew : ∀ b cc, valLoc v' = some (b, cc) → (LiveR s.h loc b ∧ u.ownBlock = some b) ∨ b = w.heap.size := by
    intro b cc hvl
    have hb' : v'.ownBlock = some b := by
      rw [hv', hvl]
      rfl
    rcases hblk with h1 | h1
    · rw [hb'] at h1
      exact .inl ⟨hublk b h1.symm, h1.symm⟩
    · rw [hb'] at h1
      cases h1
      exact .inr rfl
  have hget' : ∀ q, q ≠ r → hget (apH s.h r n row news c) q = (hget s.h q).map (killRow r) := fun q hq => by
    unfold apH
    rw [hget_hset, if_neg (Ne.symm hq), hget_killH]
  have hlive : ∀ b, Live (apH s.h r n row news c) (locSet loc r (valLoc v')) b → b = w.heap.size ∨ Live s.h loc b := by
    rintro b (⟨q, rowq, cc, h1, h2⟩ | hfb)
    case inr => exact .inr (.inr hfb)
    by_cases hq : q = r
    · subst hq
      simp only [locSet, if_true] at h2
      rcases hnew b cc h2 with h3 | h3
      · exact .inr (.inl h3.1)
      · exact .inl h3
    · rw [hget' q hq, Option.map_eq_some_iff] at h1
      obtain ⟨rq, h1, _⟩ := h1
      simp only [locSet, if_neg hq] at h2
      exact .inr (.inl ⟨q, rq, cc, h1, h2⟩)
  have himm : ∀ b, b < w.heap.size → ¬ Live s.h loc b → ¬ Live (apH s.h r n row news c) (locSet loc r (valLoc v')) b ∧ w'.heap[b]? = w.heap[b]? := fun b hlt hnl =>
    ⟨fun h => by rcases hlive b h with h1 | h1; · omega
                 · exact hnl h1, hgr b hlt hnl⟩
  have hG : ∀ x u, G s.h loc w x u → G (apH s.h r n row news c) (locSet loc r (valLoc v')) w' (killA r x) u := fun x u hx =>
    hx.kill r hgrow.size (fun q rowq hq h1 => ⟨by simp [locSet, hq], killRow r rowq, by rw [hget' q hq, h1]; rfl, killRow_sz r rowq, by rw [killRow_len]; exact Nat.le_refl _⟩) himm
  have hC : ∀ x u, C (Live s.h loc) 0 w x u → C (Live (apH s.h r n row news c) (locSet loc r (valLoc v'))) 0 w' x u := fun x u hx => hx.mono (Nat.le_refl _) hgrow.size fun b _ hlt hnl => himm b hlt hnl
  have hrowr : ∃ rowr, hget (apH s.h r n row news c) r = some rowr ∧ rowr.E = row.E ∧ rowr.sz = row.sz ∧ rowr.es.length = n + news.length := by
    unfold apH
    rw [hget_hset, if_pos rfl]
    split
    · exact ⟨_, rfl, rfl, rfl, by simp; omega⟩
    · exact ⟨_, rfl, rfl, rfl, by simp; omega⟩
  constructor
  · refine ⟨by simpa using hR.tsz, fun i x hx => ?_, hR.df, fun q rowq hq => ?_, fun q q' row1 row2 b c1 c2 h1 h2 h3 h4 => ?_, fun q row1 b c1 h1 h2 => ?_, hgrow.os.trans hR.os, hgrow.tape.trans hR.tape, hgrow.output.trans hR.output, Nat.le_trans hR.size hgrow.size, fun b hlt hlb => ?_, hR.fbe, hR.fbl, pin_set hR hp0 _, hR.pl⟩
    · simp only [List.getElem?_map, Option.map_eq_some_iff] at hx
      obtain ⟨y, hy, rfl⟩ := hx
      exact hG _ _ (hR.tm i y hy)
    · by_cases hqr : q = r
      · subst hqr
        -- the row itself
        have hxl : (xs.take (n * te.size)).length = n * te.size := hown1.1
        have cell : ∀ (k : Nat) (e0 : List AV) (j : Nat) y, (row.es.take n ++ news)[k]? = some e0 → e0[j]? = some y → ∃ v, (xs.take (n * te.size) ++ xs2)[k * te.size + j]? = some v ∧ v.oneCell' = true ∧ G s.h loc w y v ∧ ((row.cl && c) = true → C (Live s.h loc) 0 w y v) := by
          intro k e0 j y he hy
          by_cases hk : k < n
          · rw [List.getElem?_append_left (by simp; omega), List.getElem?_take, if_pos hk] at he
            obtain ⟨v, q1, q2, q3, q4⟩ := hcs k e0 j y he hy
            have hj := lt_of_some hy
            rw [hlen k e0 he, hsz] at hj
            refine ⟨v, ?_, q2, q3, fun hc => q4 (by simp only [Bool.and_eq_true] at hc; exact hc.1)⟩
            rw [hsz] at q1
            rw [List.getElem?_append_left (by rw [hxl]; exact ix_lt hk hj), List.getElem?_take, if_pos (ix_lt hk hj)]
            exact q1
          · rw [List.getElem?_append_right (by simp; omega)] at he
            have hl0 : (row.es.take n).length = n := by simp; omega
            rw [hl0] at he
            obtain ⟨v, q1, q2, q3, q4⟩ := hncs (k - n) e0 j y he hy
            refine ⟨v, ?_, q2, q3, fun hc => q4 (by simp only [Bool.and_eq_true] at hc; exact hc.2)⟩
            have hmul : k * te.size = n * te.size + (k - n) * te.size := by rw [← Nat.add_mul]; congr 1; omega
            rw [List.getElem?_append_right (by rw [hxl]; omega), hxl, ← q1]
            congr 1
            omega
        have lens : ∀ (k : Nat) e0, (row.es.take n ++ news)[k]? = some e0 → e0.length = row.sz := by
          intro k e0 he
          by_cases hk : k < n
          · rw [List.getElem?_append_left (by simp; omega), List.getElem?_take, if_pos hk] at he
            exact hlen k e0 he
          · rw [List.getElem?_append_right (by simp; omega)] at he
            rw [hsz]
            exact hnl _ e0 he
        have hrv : rowVal (locSet loc q (valLoc v')) q (n + news.length) = v' := by
          rw [hv']
          simp only [rowVal, locSet, if_true]
          cases valLoc v' with
          | none => rfl
          | some bc => rfl
        unfold apH at hq
        rw [hget_hset, if_pos rfl] at hq
        split at hq
        · rename_i hcc
          cases hq
          refine ⟨lens, _, by simp only [List.length_append, List.length_take, Nat.min_eq_left hn]; rw [hrv, hE, hsz]; exact hown', fun k e0 j y he hy => ?_⟩
          obtain ⟨v, q1, q2, q3, q4⟩ := cell k e0 j y he hy
          have hCy := q4 hcc
          have := hC _ _ hCy
          exact ⟨v, by rw [hsz]; exact q1, q2, .cl this, fun _ => this⟩
        · rename_i hcc
          cases hq
          refine ⟨fun k e0 he => ?_, _, by simp only [List.length_map, List.length_append, List.length_take, Nat.min_eq_left hn]; rw [hrv, hE, hsz]; exact hown', fun k e0 j y he hy => ?_⟩
          · simp only [List.getElem?_map, Option.map_eq_some_iff] at he
            obtain ⟨e1, he1, rfl⟩ := he
            rw [List.length_map]
            exact lens k e1 he1
          · simp only [List.getElem?_map, Option.map_eq_some_iff] at he
            obtain ⟨e1, he1, rfl⟩ := he
            simp only [List.getElem?_map, Option.map_eq_some_iff] at hy
            obtain ⟨y1, hy1, rfl⟩ := hy
            obtain ⟨v, q1, q2, q3, q4⟩ := cell k e1 j y1 he1 hy1
            exact ⟨v, by rw [hsz]; exact q1, q2, hG _ _ q3, fun h => by cases h⟩
      · rw [show (AS.mk (s.t.map (killA r)) (apH s.h r n row news c)).h = apH s.h r n row news c from rfl] at hq ⊢
        rw [hget' q hqr, Option.map_eq_some_iff] at hq
        obtain ⟨rq, hrq, rfl⟩ := hq
        have hrk := hR.rw q rq hrq
        by_cases hcl : rq.cl = true
        · have : killRow r rq = rq := by simp [killRow, hcl]
          rw [this]
          obtain ⟨g1, xq, g2, g3⟩ := hrk
          have hown2 : w'.ownsRow 0 rq.E rq.sz (rowVal (locSet loc r (valLoc v')) q rq.es.length) rq.es.length xq := by
            have e1 : rowVal (locSet loc r (valLoc v')) q rq.es.length = rowVal loc q rq.es.length := by simp [rowVal, locSet, hqr]
            rw [e1]
            exact g2.kept (row := u.ownBlock) hgrow (by
              cases hlq : loc q with
              | none => left; simp [rowVal, hlq, Value.ownBlock]
              | some bc =>
                right
                intro e2
                have hbq : u.ownBlock = some bc.1 := by rw [← e2]; simp [rowVal, hlq, Value.ownBlock]
                cases hu with
                | cl hc => cases hc
                | @o _ _ row' b' cc' hr hl hn' =>
                  simp [Value.ownBlock] at hbq
                  subst hbq
                  exact hqr (hR.inj q r rq row' _ _ _ hrq hr hlq hl)
                | onil => simp [Value.ownBlock] at hbq)
          refine ⟨g1, xq, hown2, fun k e0 j y he hy => ?_⟩
          obtain ⟨v, q1, q2, q3, q4⟩ := g3 k e0 j y he hy
          have := hC _ _ (q4 hcl)
          exact ⟨v, q1, q2, .cl this, fun _ => this⟩
        · have hk : killRow r rq = ⟨rq.E, rq.sz, rq.es.map (·.map (killA r)), false⟩ := by simp [killRow, hcl]
          rw [hk]
          obtain ⟨g1, xq, g2, g3⟩ := hrk
          have hown2 : w'.ownsRow 0 rq.E rq.sz (rowVal (locSet loc r (valLoc v')) q rq.es.length) rq.es.length xq := by
            have e1 : rowVal (locSet loc r (valLoc v')) q rq.es.length = rowVal loc q rq.es.length := by simp [rowVal, locSet, hqr]
            rw [e1]
            exact g2.kept (row := u.ownBlock) hgrow (by
              cases hlq : loc q with
              | none => left; simp [rowVal, hlq, Value.ownBlock]
              | some bc =>
                right
                intro e2
                have hbq : u.ownBlock = some bc.1 := by rw [← e2]; simp [rowVal, hlq, Value.ownBlock]
                cases hu with
                | cl hc => cases hc
                | @o _ _ row' b' cc' hr hl hn' =>
                  simp [Value.ownBlock] at hbq
                  subst hbq
                  exact hqr (hR.inj q r rq row' _ _ _ hrq hr hlq hl)
                | onil => simp [Value.ownBlock] at hbq)
          refine ⟨fun k e0 he => ?_, xq, by simpa using hown2, fun k e0 j y he hy => ?_⟩
          · simp only [List.getElem?_map, Option.map_eq_some_iff] at he
            obtain ⟨e1, he1, rfl⟩ := he
            rw [List.length_map]
            exact g1 k e1 he1
          · simp only [List.getElem?_map, Option.map_eq_some_iff] at he
            obtain ⟨e1, he1, rfl⟩ := he
            simp only [List.getElem?_map, Option.map_eq_some_iff] at hy
            obtain ⟨y1, hy1, rfl⟩ := hy
            obtain ⟨v, q1, q2, q3, q4⟩ := g3 k e1 j y1 he1 hy1
            exact ⟨v, q1, q2, hG _ _ q3, fun h => by cases h⟩
    · simp only at h1 h2
      by_cases e1 : q = r <;> by_cases e2 : q' = r
      · rw [e1, e2]
      · subst e1
        simp only [locSet, if_true] at h3
        simp only [locSet, if_neg e2] at h4
        rw [hget' q' e2, Option.map_eq_some_iff] at h2
        obtain ⟨rq, hrq, _⟩ := h2
        have hlt := Live.lt hR.rw ⟨q', rq, c2, hrq, h4⟩
        rcases hnew b c1 h3 with h5 | h5
        · exfalso
          cases hu with
          | cl hc => cases hc
          | @o _ _ row' b' cc' hr hl hn' =>
            have h6 := h5.2
            simp [Value.ownBlock] at h6
            subst h6
            exact e2 (hR.inj q' q rq row' _ _ _ hrq hr h4 hl)
          | onil => have h6 := h5.2; simp [Value.ownBlock] at h6
        · omega
      · subst e2
        simp only [locSet, if_true] at h4
        simp only [locSet, if_neg e1] at h3
        rw [hget' q e1, Option.map_eq_some_iff] at h1
        obtain ⟨rq, hrq, _⟩ := h1
        have hlt := Live.lt hR.rw ⟨q, rq, c1, hrq, h3⟩
        rcases hnew b c2 h4 with h5 | h5
        · exfalso
          cases hu with
          | cl hc => cases hc
          | @o _ _ row' b' cc' hr hl hn' =>
            have h6 := h5.2
            simp [Value.ownBlock] at h6
            subst h6
            exact e1 (hR.inj q q' rq row' _ _ _ hrq hr h3 hl)
          | onil => have h6 := h5.2; simp [Value.ownBlock] at h6
        · omega
      · simp only [locSet, if_neg e1] at h3
        simp only [locSet, if_neg e2] at h4
        rw [hget' q e1, Option.map_eq_some_iff] at h1
        rw [hget' q' e2, Option.map_eq_some_iff] at h2
        obtain ⟨r1, h1, _⟩ := h1
        obtain ⟨r2, h2, _⟩ := h2
        exact hR.inj q q' r1 r2 b c1 c2 h1 h2 h3 h4
    · simp only at h1
      by_cases e1 : q = r
      · subst e1
        simp only [locSet, if_true] at h2
        rcases hnew b c1 h2 with ⟨⟨q', rq, cc, h5, h6⟩, _⟩ | h5
        · exact hR.own q' rq b cc h5 h6
        · left; rw [h5]; exact hR.size
      · simp only [locSet, if_neg e1] at h2
        rw [hget' q e1, Option.map_eq_some_iff] at h1
        obtain ⟨r1, h1, _⟩ := h1
        exact hR.own q r1 b c1 h1 h2
    · rw [hgrow.block b (Nat.lt_of_lt_of_le hlt hR.size) (fun e => ?_)]
      · exact hR.keep b hlt hlb
      · obtain ⟨q', rq, cc, h5, h6⟩ := hublk b e.symm
        rcases hR.own q' rq b cc h5 h6 with h7 | h7
        · omega
        · exact hlb h7
  · obtain ⟨rowr, h1, h2, h3, h4⟩ := hrowr
    cases hvl : valLoc v' with
    | none =>
      have hn0 := hv0 hvl
      have hv2 : v' = .slice none 0 0 := by rw [hvl] at hv'; exact hv'
      have hl : locSet loc r none r = none := by simp [locSet]
      rw [hv2, hn0]
      exact .onil h1 hl
    | some bc =>
      obtain ⟨b, cc⟩ := bc
      have hv2 : v' = .slice (some ⟨b, 0, none⟩) (n + news.length) cc := by rw [hvl] at hv'; exact hv'
      have hl : locSet loc r (some (b, cc)) r = some (b, cc) := by simp [locSet]
      rw [hv2]
      exact .o h1 hl (by omega)
end

end Go.Proofs.YtccifbbjbnjcfaaGreatDoor
