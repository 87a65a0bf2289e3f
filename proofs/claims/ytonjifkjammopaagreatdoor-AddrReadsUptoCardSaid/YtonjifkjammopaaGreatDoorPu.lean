/- strconv.ParseUint at base 16 and 16 bits, of any text: the public one; what the row's tables are. Conditions: as each lemma states them. -/
import Derived.Test.YtonjifkjammopaaGreatDoorPars
import Derived.Shelf.Pu.ToError
import Derived.Shelf.Pu.ToErrorRange
import Derived.Lib.LaidTab
import Derived.Lib.ItoaMem
import Derived.WalkSmall
namespace Go.Proofs.YtonjifkjammopaaGreatDoor
open Go.Shelf Go.Lib Go.RowKit
def laysPu14_ren : Go.Shelf.Ren := ⟨fun | 14 => 39 | 16 => 53 | 17 => 46 | 19 => 75 | 20 => 76 | 21 => 60 | 22 => 61 | 23 => 62 | 24 => 63 | 25 => 82 | 27 => 31 | 26 => 83 | 28 => 40 | 29 => 51 | 30 => 67 | 31 => 68 | 32 => 69 | 33 => 70 | 35 => 85 | 34 => 84 | 36 => 86 | 37 => 87 | 38 => 88 | 39 => 92 | 40 => 93 | n => n, fun | 9 => 9 | 3 => 3 | 22 => 71 | 24 => 31 | 25 => 72 | 4 => 4 | 34 => 97 | 5 => 5 | 36 => 58 | 37 => 27 | 0 => 0 | 39 => 100 | 21 => 21 | 44 => 133 | 47 => 95 | 50 => 144 | 48 => 142 | 2 => 2 | 52 => 117 | 55 => 120 | 59 => 136 | 60 => 137 | 20 => 20 | 61 => 138 | 65 => 150 | 66 => 151 | 67 => 78 | n => n, fun | 0 => 2 | 1 => 3 | 2 => 4 | 3 => 7 | 4 => 8 | n => n⟩
theorem laysPu14 : Go.Proofs.LaysPu.n14 Tryz.prog laysPu14_ren := {
  mixed := by kernel_rfl
  f14 := Tryz.func39.trans (congrArg some (by kernel_rfl))
  f16 := Tryz.func53.trans (congrArg some (by kernel_rfl))
  f17 := Tryz.func46.trans (congrArg some (by kernel_rfl))
  f19 := Tryz.func75.trans (congrArg some (by kernel_rfl))
  f20 := Tryz.func76.trans (congrArg some (by kernel_rfl))
  f21 := Tryz.func60.trans (congrArg some (by kernel_rfl))
  f22 := Tryz.func61.trans (congrArg some (by kernel_rfl))
  f23 := Tryz.func62.trans (congrArg some (by kernel_rfl))
  f24 := Tryz.func63.trans (congrArg some (by kernel_rfl))
  f25 := Tryz.func82.trans (congrArg some (by kernel_rfl))
  f26 := Tryz.func83.trans (congrArg some (by kernel_rfl))
  f27 := Tryz.func31.trans (congrArg some (by kernel_rfl))
  f28 := Tryz.func40.trans (congrArg some (by kernel_rfl))
  f29 := Tryz.func51.trans (congrArg some (by kernel_rfl))
  f30 := Tryz.func67.trans (congrArg some (by kernel_rfl))
  f31 := Tryz.func68.trans (congrArg some (by kernel_rfl))
  f32 := Tryz.func69.trans (congrArg some (by kernel_rfl))
  f33 := Tryz.func70.trans (congrArg some (by kernel_rfl))
  f34 := Tryz.func84.trans (congrArg some (by kernel_rfl))
  f35 := Tryz.func85.trans (congrArg some (by kernel_rfl))
  f36 := Tryz.func86.trans (congrArg some (by kernel_rfl))
  f37 := Tryz.func87.trans (congrArg some (by kernel_rfl))
  f38 := Tryz.func88.trans (congrArg some (by kernel_rfl))
  f39 := Tryz.func92.trans (congrArg some (by kernel_rfl))
  f40 := Tryz.func93.trans (congrArg some (by kernel_rfl))
  t0 := Tryz.underlying0
  a0 := Tryz.isAgg0
  z0 := Tryz.sizeOf0
  v0 := Tryz.zeroValue0
  i0 := by kernel_rfl
  t2 := Tryz.underlying2
  a2 := Tryz.isAgg2
  z2 := Tryz.sizeOf2
  v2 := Tryz.zeroValue2
  i2 := by kernel_rfl
  t3 := Tryz.underlying3
  a3 := Tryz.isAgg3
  z3 := Tryz.sizeOf3
  v3 := Tryz.zeroValue3
  i3 := by kernel_rfl
  t4 := Tryz.underlying4
  a4 := Tryz.isAgg4
  z4 := Tryz.sizeOf4
  v4 := Tryz.zeroValue4
  i4 := by kernel_rfl
  t5 := Tryz.underlying5
  a5 := Tryz.isAgg5
  z5 := Tryz.sizeOf5
  v5 := Tryz.zeroValue5
  i5 := by kernel_rfl
  t9 := Tryz.underlying9
  a9 := Tryz.isAgg9
  z9 := Tryz.sizeOf9
  v9 := Tryz.zeroValue9
  i9 := by kernel_rfl
  t20 := Tryz.underlying20
  a20 := Tryz.isAgg20
  z20 := Tryz.sizeOf20
  v20 := Tryz.zeroValue20
  i20 := by kernel_rfl
  t21 := Tryz.underlying21
  a21 := Tryz.isAgg21
  z21 := Tryz.sizeOf21
  v21 := Tryz.zeroValue21
  i21 := by kernel_rfl
  t22 := Tryz.underlying71
  a22 := Tryz.isAgg71
  z22 := Tryz.sizeOf71
  v22 := Tryz.zeroValue71
  i22 := by kernel_rfl
  t24 := Tryz.underlying31
  a24 := Tryz.isAgg31
  z24 := Tryz.sizeOf31
  v24 := Tryz.zeroValue31
  i24 := by kernel_rfl
  t25 := Tryz.underlying72
  a25 := Tryz.isAgg72
  z25 := Tryz.sizeOf72
  v25 := Tryz.zeroValue72
  i25 := by kernel_rfl
  t34 := Tryz.underlying97
  a34 := Tryz.isAgg97
  z34 := Tryz.sizeOf97
  v34 := Tryz.zeroValue97
  i34 := by kernel_rfl
  c34 := by kernel_rfl
  t36 := Tryz.underlying58
  a36 := Tryz.isAgg58
  z36 := Tryz.sizeOf58
  v36 := Tryz.zeroValue58
  i36 := by kernel_rfl
  t37 := Tryz.underlying27
  a37 := Tryz.isAgg27
  z37 := Tryz.sizeOf27
  v37 := Tryz.zeroValue27
  i37 := by kernel_rfl
  t39 := Tryz.underlying100
  a39 := Tryz.isAgg100
  z39 := Tryz.sizeOf100
  v39 := Tryz.zeroValue100
  i39 := by kernel_rfl
  t44 := Tryz.underlying133
  a44 := Tryz.isAgg133
  z44 := Tryz.sizeOf133
  v44 := Tryz.zeroValue133
  i44 := by kernel_rfl
  t47 := Tryz.underlying95
  a47 := Tryz.isAgg95
  z47 := Tryz.sizeOf95
  v47 := Tryz.zeroValue95
  i47 := by kernel_rfl
  t48 := Tryz.underlying142
  a48 := Tryz.isAgg142
  z48 := Tryz.sizeOf142
  v48 := Tryz.zeroValue142
  i48 := by kernel_rfl
  t50 := Tryz.underlying144
  a50 := Tryz.isAgg144
  z50 := Tryz.sizeOf144
  v50 := Tryz.zeroValue144
  i50 := by kernel_rfl
  t52 := Tryz.underlying117
  a52 := Tryz.isAgg117
  z52 := Tryz.sizeOf117
  v52 := Tryz.zeroValue117
  i52 := by kernel_rfl
  t55 := Tryz.underlying120
  a55 := Tryz.isAgg120
  z55 := Tryz.sizeOf120
  v55 := Tryz.zeroValue120
  i55 := by kernel_rfl
  t59 := Tryz.underlying136
  a59 := Tryz.isAgg136
  z59 := Tryz.sizeOf136
  v59 := Tryz.zeroValue136
  i59 := by kernel_rfl
  t60 := Tryz.underlying137
  a60 := Tryz.isAgg137
  z60 := Tryz.sizeOf137
  v60 := Tryz.zeroValue137
  i60 := by kernel_rfl
  t61 := Tryz.underlying138
  a61 := Tryz.isAgg138
  z61 := Tryz.sizeOf138
  t65 := Tryz.underlying150
  a65 := Tryz.isAgg150
  z65 := Tryz.sizeOf150
  v65 := Tryz.zeroValue150
  i65 := by kernel_rfl
  t66 := Tryz.underlying151
  a66 := Tryz.isAgg151
  z66 := Tryz.sizeOf151
  v66 := Tryz.zeroValue151
  i66 := by kernel_rfl
  t67 := Tryz.underlying78
  a67 := Tryz.isAgg78
  z67 := Tryz.sizeOf78
  v67 := Tryz.zeroValue78
  i67 := by kernel_rfl
  g0 := by kernel_rfl
  m0 := by kernel_rfl
  g1 := by kernel_rfl
  m1 := by kernel_rfl
  g2 := by kernel_rfl
  m2 := by kernel_rfl
  g3 := by kernel_rfl
  m3 := by kernel_rfl
  g4 := by kernel_rfl
  m4 := by kernel_rfl }


/-- What the library's tables and sentinels hold. -/
structure Tabs (w : World) : Prop where
  db : w.cell? ⟨8, 15, none⟩ = some (.int .u8 4)
  pow : Lib.TabIs Tryz.prog w "internal/strconv.uint64pow10" .u64 Lib.pow10Tab
  es : ∃ t v, w.cell? ⟨2, 0, none⟩ = some (.iface t v)
  er : ∃ t v, w.cell? ⟨3, 0, none⟩ = some (.iface t v)
  ml : ∃ m, w.cell? ⟨1, 0, none⟩ = some (.int .i64 m)
  pg : 4 < w.heap.size
theorem cell_ext {w w' : World} {g i : Nat} {v : Value} (h : w.cell? ⟨g, i, none⟩ = some v) (k : Ext w w') : w'.cell? ⟨g, i, none⟩ = some v :=
  (Below.cell k (World.block_lt_of_cell? w _ h)).trans h
theorem Tabs.ext {w w' : World} (h : Tabs w) (k : Ext w w') : Tabs w' := by
  obtain ⟨db, pow, ⟨t, v, es⟩, ⟨t', v', er⟩, ⟨m, ml⟩, pg⟩ := h
  exact ⟨cell_ext db k, var?_below k (show Tryz.prog.globalNamed "internal/strconv.uint64pow10" = some 4 by kernel_rfl) pg pow, ⟨t, v, cell_ext es k⟩, ⟨t', v', cell_ext er k⟩, ⟨m, cell_ext ml k⟩, Nat.lt_of_lt_of_le pg k.size⟩
/-- What a word's parse hands back. -/
def PN (l : List UInt8) (e : Ending) : Prop :=
  (∃ n : Nat, (l ≠ [] ∧ Pl.hexP 0 l = some n) ∧ e = .returned (.tuple #[.int .u64 n, .nilIface])) ∨
  (∃ (n : Int) (p : Addr), (l = [] ∨ Pl.hexP 0 l = none) ∧ e = .returned (.tuple #[.int .u64 n, .iface 100 (.pointer (some p))]))
set_option maxRecDepth 100000 in
set_option maxHeartbeats 1000000 in
theorem puint_any (t : ByteArray) (hlim : t.size ≤ 281474976710656) (w : World) (T : Tabs w) :
    Calls Tryz.prog 39 #[.string t, .int .i64 16, .int .i64 16] w fun e w' => PN t.data.toList e ∧ Ext w w' := by
  have hI := Lib.hid (iparse_any t (by omega) w)
  have HT := Lib.hid T
  clear T
  go_enter Tryz.func39, Tryz.ntmps39
  go_wp2_with fail
  refine hI.out.mono ?_
  rintro e W1 ⟨he, E1⟩
  rcases he with ⟨n, hn, rfl⟩ | ⟨n, x, hn, rfl | rfl, rfl⟩
  · go_wp2_with fail
    go_returns
    exact ⟨.inl ⟨n, hn, rfl⟩, E1⟩
  · obtain ⟨tt, v, hv⟩ := (HT.out.ext E1).er
    have HV := Lib.hid hv
    clear hv
    go_wp2_with fail
    refine (AnyPu.strconv_toError_range { laysPu14 with } ⟨#[80, 97, 114, 115, 101, 85, 105, 110, 116]⟩ t 16 16 _ _ hlim HV.out (.inr ⟨tt, v, rfl⟩)).mono ?_
    rintro e W2 ⟨N, rfl, h1, h2, h3⟩
    go_wp2_with fail
    go_returns
    exact ⟨.inr ⟨n, _, hn, rfl⟩, E1.trans h3⟩
  · obtain ⟨tt, v, hv⟩ := (HT.out.ext E1).es
    have HV := Lib.hid hv
    clear hv
    go_wp2_with fail
    refine (AnyPu.strconv_toError_syntax { laysPu14 with } ⟨#[80, 97, 114, 115, 101, 85, 105, 110, 116]⟩ t 16 16 _ _ hlim HV.out (.inr ⟨tt, v, rfl⟩)).mono ?_
    rintro e W2 ⟨N, rfl, h1, h2, h3⟩
    go_wp2_with fail
    go_returns
    exact ⟨.inr ⟨n, _, hn, rfl⟩, E1.trans h3⟩
end Go.Proofs.YtonjifkjammopaaGreatDoor
