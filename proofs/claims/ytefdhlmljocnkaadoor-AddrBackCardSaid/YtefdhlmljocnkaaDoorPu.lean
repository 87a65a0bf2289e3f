/- strconv.ParseUint at base 16 and 16 bits, of any text: the public one; what the row's tables are. Conditions: as each lemma states them. -/
import Derived.Test.YtefdhlmljocnkaaDoorPars
import Derived.Shelf.Pu.ToError
import Derived.Shelf.Pu.ToErrorRange
import Derived.Lib.LaidTab
import Derived.Lib.ItoaMem
import Derived.WalkSmall
namespace Go.Proofs.YtefdhlmljocnkaaDoor
open Go.Shelf Go.Lib Go.RowKit
def laysPu14_ren : Go.Shelf.Ren := ⟨fun | 14 => 84 | 16 => 103 | 17 => 82 | 19 => 132 | 20 => 133 | 21 => 98 | 22 => 99 | 23 => 100 | 24 => 101 | 25 => 126 | 27 => 58 | 26 => 127 | 28 => 76 | 29 => 91 | 30 => 117 | 31 => 118 | 32 => 119 | 33 => 120 | 35 => 116 | 34 => 139 | 36 => 140 | 37 => 141 | 38 => 142 | 39 => 147 | 40 => 148 | n => n, fun | 9 => 9 | 3 => 3 | 22 => 157 | 24 => 31 | 25 => 158 | 4 => 4 | 34 => 178 | 5 => 5 | 36 => 123 | 37 => 128 | 0 => 0 | 39 => 181 | 21 => 21 | 44 => 220 | 47 => 175 | 50 => 235 | 48 => 233 | 2 => 2 | 52 => 208 | 55 => 210 | 59 => 231 | 60 => 206 | 20 => 20 | 61 => 232 | 65 => 244 | 66 => 245 | 67 => 154 | n => n, fun | 0 => 1 | 1 => 2 | 2 => 4 | 3 => 7 | 4 => 8 | n => n⟩
theorem laysPu14 : Go.Proofs.LaysPu.n14 Tryd.prog laysPu14_ren := {
  mixed := by kernel_rfl
  f14 := Tryd.func84.trans (congrArg some (by kernel_rfl))
  f16 := Tryd.func103.trans (congrArg some (by kernel_rfl))
  f17 := Tryd.func82.trans (congrArg some (by kernel_rfl))
  f19 := Tryd.func132.trans (congrArg some (by kernel_rfl))
  f20 := Tryd.func133.trans (congrArg some (by kernel_rfl))
  f21 := Tryd.func98.trans (congrArg some (by kernel_rfl))
  f22 := Tryd.func99.trans (congrArg some (by kernel_rfl))
  f23 := Tryd.func100.trans (congrArg some (by kernel_rfl))
  f24 := Tryd.func101.trans (congrArg some (by kernel_rfl))
  f25 := Tryd.func126.trans (congrArg some (by kernel_rfl))
  f26 := Tryd.func127.trans (congrArg some (by kernel_rfl))
  f27 := Tryd.func58.trans (congrArg some (by kernel_rfl))
  f28 := Tryd.func76.trans (congrArg some (by kernel_rfl))
  f29 := Tryd.func91.trans (congrArg some (by kernel_rfl))
  f30 := Tryd.func117.trans (congrArg some (by kernel_rfl))
  f31 := Tryd.func118.trans (congrArg some (by kernel_rfl))
  f32 := Tryd.func119.trans (congrArg some (by kernel_rfl))
  f33 := Tryd.func120.trans (congrArg some (by kernel_rfl))
  f34 := Tryd.func139.trans (congrArg some (by kernel_rfl))
  f35 := Tryd.func116.trans (congrArg some (by kernel_rfl))
  f36 := Tryd.func140.trans (congrArg some (by kernel_rfl))
  f37 := Tryd.func141.trans (congrArg some (by kernel_rfl))
  f38 := Tryd.func142.trans (congrArg some (by kernel_rfl))
  f39 := Tryd.func147.trans (congrArg some (by kernel_rfl))
  f40 := Tryd.func148.trans (congrArg some (by kernel_rfl))
  t0 := Tryd.underlying0
  a0 := Tryd.isAgg0
  z0 := Tryd.sizeOf0
  v0 := Tryd.zeroValue0
  i0 := by kernel_rfl
  t2 := Tryd.underlying2
  a2 := Tryd.isAgg2
  z2 := Tryd.sizeOf2
  v2 := Tryd.zeroValue2
  i2 := by kernel_rfl
  t3 := Tryd.underlying3
  a3 := Tryd.isAgg3
  z3 := Tryd.sizeOf3
  v3 := Tryd.zeroValue3
  i3 := by kernel_rfl
  t4 := Tryd.underlying4
  a4 := Tryd.isAgg4
  z4 := Tryd.sizeOf4
  v4 := Tryd.zeroValue4
  i4 := by kernel_rfl
  t5 := Tryd.underlying5
  a5 := Tryd.isAgg5
  z5 := Tryd.sizeOf5
  v5 := Tryd.zeroValue5
  i5 := by kernel_rfl
  t9 := Tryd.underlying9
  a9 := Tryd.isAgg9
  z9 := Tryd.sizeOf9
  v9 := Tryd.zeroValue9
  i9 := by kernel_rfl
  t20 := Tryd.underlying20
  a20 := Tryd.isAgg20
  z20 := Tryd.sizeOf20
  v20 := Tryd.zeroValue20
  i20 := by kernel_rfl
  t21 := Tryd.underlying21
  a21 := Tryd.isAgg21
  z21 := Tryd.sizeOf21
  v21 := Tryd.zeroValue21
  i21 := by kernel_rfl
  t22 := Tryd.underlying157
  a22 := Tryd.isAgg157
  z22 := Tryd.sizeOf157
  v22 := Tryd.zeroValue157
  i22 := by kernel_rfl
  t24 := Tryd.underlying31
  a24 := Tryd.isAgg31
  z24 := Tryd.sizeOf31
  v24 := Tryd.zeroValue31
  i24 := by kernel_rfl
  t25 := Tryd.underlying158
  a25 := Tryd.isAgg158
  z25 := Tryd.sizeOf158
  v25 := Tryd.zeroValue158
  i25 := by kernel_rfl
  t34 := Tryd.underlying178
  a34 := Tryd.isAgg178
  z34 := Tryd.sizeOf178
  v34 := Tryd.zeroValue178
  i34 := by kernel_rfl
  c34 := by kernel_rfl
  t36 := Tryd.underlying123
  a36 := Tryd.isAgg123
  z36 := Tryd.sizeOf123
  v36 := Tryd.zeroValue123
  i36 := by kernel_rfl
  t37 := Tryd.underlying128
  a37 := Tryd.isAgg128
  z37 := Tryd.sizeOf128
  v37 := Tryd.zeroValue128
  i37 := by kernel_rfl
  t39 := Tryd.underlying181
  a39 := Tryd.isAgg181
  z39 := Tryd.sizeOf181
  v39 := Tryd.zeroValue181
  i39 := by kernel_rfl
  t44 := Tryd.underlying220
  a44 := Tryd.isAgg220
  z44 := Tryd.sizeOf220
  v44 := Tryd.zeroValue220
  i44 := by kernel_rfl
  t47 := Tryd.underlying175
  a47 := Tryd.isAgg175
  z47 := Tryd.sizeOf175
  v47 := Tryd.zeroValue175
  i47 := by kernel_rfl
  t48 := Tryd.underlying233
  a48 := Tryd.isAgg233
  z48 := Tryd.sizeOf233
  v48 := Tryd.zeroValue233
  i48 := by kernel_rfl
  t50 := Tryd.underlying235
  a50 := Tryd.isAgg235
  z50 := Tryd.sizeOf235
  v50 := Tryd.zeroValue235
  i50 := by kernel_rfl
  t52 := Tryd.underlying208
  a52 := Tryd.isAgg208
  z52 := Tryd.sizeOf208
  v52 := Tryd.zeroValue208
  i52 := by kernel_rfl
  t55 := Tryd.underlying210
  a55 := Tryd.isAgg210
  z55 := Tryd.sizeOf210
  v55 := Tryd.zeroValue210
  i55 := by kernel_rfl
  t59 := Tryd.underlying231
  a59 := Tryd.isAgg231
  z59 := Tryd.sizeOf231
  v59 := Tryd.zeroValue231
  i59 := by kernel_rfl
  t60 := Tryd.underlying206
  a60 := Tryd.isAgg206
  z60 := Tryd.sizeOf206
  v60 := Tryd.zeroValue206
  i60 := by kernel_rfl
  t61 := Tryd.underlying232
  a61 := Tryd.isAgg232
  z61 := Tryd.sizeOf232
  t65 := Tryd.underlying244
  a65 := Tryd.isAgg244
  z65 := Tryd.sizeOf244
  v65 := Tryd.zeroValue244
  i65 := by kernel_rfl
  t66 := Tryd.underlying245
  a66 := Tryd.isAgg245
  z66 := Tryd.sizeOf245
  v66 := Tryd.zeroValue245
  i66 := by kernel_rfl
  t67 := Tryd.underlying154
  a67 := Tryd.isAgg154
  z67 := Tryd.sizeOf154
  v67 := Tryd.zeroValue154
  i67 := by kernel_rfl
  g0 := by kernel_rfl
  m0 := by kernel_rfl
  g1 := by kernel_rfl
  m1 := by kernel_rfl
  g2 := by kernel_rfl
  m2 := by kernel_rfl
  g3 := by kernel_rfl
  m3 := by kernel_rfl
  g4 := by kernel_rfl
  m4 := by kernel_rfl }


/-- What the library's tables and sentinels hold. -/
structure Tabs (w : World) : Prop where
  db : w.cell? ⟨8, 15, none⟩ = some (.int .u8 4)
  pow : Lib.TabIs Tryd.prog w "internal/strconv.uint64pow10" .u64 Lib.pow10Tab
  es : ∃ t v, w.cell? ⟨1, 0, none⟩ = some (.iface t v)
  er : ∃ t v, w.cell? ⟨2, 0, none⟩ = some (.iface t v)
  ml : ∃ m, w.cell? ⟨3, 0, none⟩ = some (.int .i64 m)
  pg : 4 < w.heap.size
theorem cell_ext {w w' : World} {g i : Nat} {v : Value} (h : w.cell? ⟨g, i, none⟩ = some v) (k : Ext w w') : w'.cell? ⟨g, i, none⟩ = some v :=
  (Below.cell k (World.block_lt_of_cell? w _ h)).trans h
theorem Tabs.ext {w w' : World} (h : Tabs w) (k : Ext w w') : Tabs w' := by
  obtain ⟨db, pow, ⟨t, v, es⟩, ⟨t', v', er⟩, ⟨m, ml⟩, pg⟩ := h
  exact ⟨cell_ext db k, var?_below k (show Tryd.prog.globalNamed "internal/strconv.uint64pow10" = some 4 by kernel_rfl) pg pow, ⟨t, v, cell_ext es k⟩, ⟨t', v', cell_ext er k⟩, ⟨m, cell_ext ml k⟩, Nat.lt_of_lt_of_le pg k.size⟩
/-- What a word's parse hands back. -/
def PN (l : List UInt8) (e : Ending) : Prop :=
  (∃ n : Nat, (l ≠ [] ∧ Pl.hexP 0 l = some n) ∧ e = .returned (.tuple #[.int .u64 n, .nilIface])) ∨
  (∃ (n : Int) (p : Addr), (l = [] ∨ Pl.hexP 0 l = none) ∧ e = .returned (.tuple #[.int .u64 n, .iface 181 (.pointer (some p))]))
set_option maxRecDepth 100000 in
set_option maxHeartbeats 1000000 in
theorem puint_any (t : ByteArray) (hlim : t.size ≤ 281474976710656) (w : World) (T : Tabs w) :
    Calls Tryd.prog 84 #[.string t, .int .i64 16, .int .i64 16] w fun e w' => PN t.data.toList e ∧ Ext w w' := by
  have hI := Lib.hid (iparse_any t (by omega) w)
  have HT := Lib.hid T
  clear T
  go_enter Tryd.func84, Tryd.ntmps84
  go_wp2_with fail
  refine hI.out.mono ?_
  rintro e W1 ⟨he, E1⟩
  rcases he with ⟨n, hn, rfl⟩ | ⟨n, x, hn, rfl | rfl, rfl⟩
  · go_wp2_with fail
    go_returns
    exact ⟨.inl ⟨n, hn, rfl⟩, E1⟩
  · obtain ⟨tt, v, hv⟩ := (HT.out.ext E1).er
    have HV := Lib.hid hv
    clear hv
    go_wp2_with fail
    refine (AnyPu.strconv_toError_range { laysPu14 with } ⟨#[80, 97, 114, 115, 101, 85, 105, 110, 116]⟩ t 16 16 _ _ hlim HV.out (.inr ⟨tt, v, rfl⟩)).mono ?_
    rintro e W2 ⟨N, rfl, h1, h2, h3⟩
    go_wp2_with fail
    go_returns
    exact ⟨.inr ⟨n, _, hn, rfl⟩, E1.trans h3⟩
  · obtain ⟨tt, v, hv⟩ := (HT.out.ext E1).es
    have HV := Lib.hid hv
    clear hv
    go_wp2_with fail
    refine (AnyPu.strconv_toError_syntax { laysPu14 with } ⟨#[80, 97, 114, 115, 101, 85, 105, 110, 116]⟩ t 16 16 _ _ hlim HV.out (.inr ⟨tt, v, rfl⟩)).mono ?_
    rintro e W2 ⟨N, rfl, h1, h2, h3⟩
    go_wp2_with fail
    go_returns
    exact ⟨.inr ⟨n, _, hn, rfl⟩, E1.trans h3⟩
end Go.Proofs.YtefdhlmljocnkaaDoor
