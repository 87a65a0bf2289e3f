/- strconv.FormatInt at base 16, of a word. Conditions: as each lemma states them. -/
import Derived.Test.YtonjifkjammopaaGreatDoorTxt
import Derived.Test.YtonjifkjammopaaGreatDoorSixS
import Derived.Test.YtonjifkjammopaaGreatDoorStore
import Derived.Test.YtonjifkjammopaaGreatDoorBits
import Derived.Test.YtonjifkjammopaaGreatDoorStr
import Derived.Handy
import Derived.Laws.Slices
import Derived.Deep.DeepCutAuto
namespace Go.Proofs.YtonjifkjammopaaGreatDoor
open Go.RowKit
set_option maxRecDepth 100000 in
set_option maxHeartbeats 1000000 in
theorem tz64 (w : World) (h : w.cell? ⟨8, 15, none⟩ = some (.int .u8 4)) :
    Calls Tryz.prog 93 #[.int .u64 16] w fun e w' => e = .returned (.int .i64 4) ∧ w' = w := by
  have h1 : bits .and .u64 16 (IntKind.u64.wrap (-16)) = 16 := by decide +kernel
  have h2 : IntKind.u64.wrap (16 * 285870213051353865) = 4573923408821661840 := by decide +kernel
  have h3 : ((4573923408821661840 : Int) / 288230376151711744).toNat = 15 := by decide +kernel
  go_enter Tryz.func93, Tryz.ntmps93
  go_wp2_with fail
  go_returns
  exact ⟨rfl, rfl⟩
set_option maxRecDepth 100000 in
set_option maxHeartbeats 1000000 in
theorem tz16 (w : World) (h : w.cell? ⟨8, 15, none⟩ = some (.int .u8 4)) :
    Calls Tryz.prog 88 #[.int .u64 16] w fun e w' => e = .returned (.int .i64 4) ∧ w' = w := by
  go_enter Tryz.func88, Tryz.ntmps88
  go_wp2_with fail
  refine (tz64 w h).mono ?_
  rintro e w' ⟨rfl, rfl⟩
  go_wp2_with fail
  go_returns
  exact ⟨rfl, rfl⟩
set_option maxRecDepth 100000 in
set_option maxHeartbeats 1000000 in
theorem pow16 (w : World) : Calls Tryz.prog 87 #[.int .i64 16] w fun e w' => e = .returned (.bool true) ∧ w' = w := by
  have h1 : bits .and .i64 16 15 = 0 := by decide +kernel
  go_enter Tryz.func87, Tryz.ntmps87
  go_wp2_with fail
  go_returns
  exact ⟨rfl, rfl⟩
theorem wraps_u64 (n : Int) (h0 : 0 ≤ n) (h1 : n < 2 ^ 62) : IntKind.u64.wrap n = n := by rw [two62] at h1; rw [IntKind.wrap_u64]; omega
theorem and15 (v : Nat) (hv : v ≤ 65535) : bits .and .u64 (v : Int) 15 = ((v % 16 : Nat) : Int) := by
  have := bits_mask .u64 62 (by decide) wraps_u64 4 (by decide) (v : Int) (by omega) (by rw [two62]; omega)
  rw [show ((2 : Int) ^ 4 - 1) = 15 by decide, show ((2 : Int) ^ 4) = 16 by decide] at this
  rw [this]
  omega
abbrev digs : ByteArray := ⟨#[48, 49, 50, 51, 52, 53, 54, 55, 56, 57, 97, 98, 99, 100, 101, 102, 103, 104, 105, 106, 107, 108, 109, 110, 111, 112, 113, 114, 115, 116, 117, 118, 119, 120, 121, 122]⟩
theorem digs_at : ∀ d : Fin 16, digs[d.val]'(Nat.lt_of_lt_of_le d.isLt (by decide)) = Pl.hexD d.val := by decide
theorem dig16 {n v : Nat} (hn : n = v) (hv : v < 16) (h : n < digs.size) : (digs[n]'h).toNat = (Pl.hexD v).toNat := by
  subst hn
  exact congrArg UInt8.toNat (digs_at ⟨n, hv⟩)
/-- The last k digits stand at the array's end. -/
def Low (w : World) (g u k : Nat) : Prop := ∃ cs : Array Value, Blk w g 138 cs ∧ cs.size = 65 ∧ ∀ j, j < k → cs[64 - j]? = some (.int .u8 ((Pl.hexD (u / 16 ^ j % 16)).toNat : Int))
theorem Low.put {w : World} {g u k i v : Nat} (h : Low w g u k) (hi : i + k = 64) (hv : v = u / 16 ^ k) {x : Int} (hx : x = ((Pl.hexD (v % 16)).toNat : Int)) : Low (w.setCell ⟨g, i, none⟩ (.int .u8 x)) g u (k + 1) := by
  obtain ⟨cs, K, hsz, hcs⟩ := h
  refine ⟨_, K.put i (.int .u8 x), by simp [hsz], fun j hj => ?_⟩
  rw [Array.getElem?_setIfInBounds]
  by_cases he : j = k
  · subst he
    rw [if_pos (by omega), if_pos (by omega), hx, hv]
  · rw [if_neg (by omega)]
    exact hcs j (by omega)
/-- The digits from the first one on. -/
def hexL (u k : Nat) : List Int := (List.range (k + 1)).map fun j => ((Pl.hexD (u / 16 ^ (k - j) % 16)).toNat : Int)
theorem hexL_str (u k : Nat) : strOfNums (hexL u k) = ⟨(Pl.hexK u k).toArray⟩ := by
  unfold strOfNums hexL Pl.hexK
  rw [List.map_map]
  congr 2
  refine List.map_congr_left fun j _ => ?_
  simp
theorem Low.ints {w : World} {g u k i : Nat} (h : Low w g u (k + 1)) (hi : i + k = 64) : Ints .u8 w (some ⟨g, i, none⟩) (k + 1) (hexL u k) := by
  obtain ⟨cs, K, hsz, hcs⟩ := h
  refine ⟨by simp [hexL], .inr ⟨g, i, rfl, fun j hj => ?_⟩⟩
  have hc := hcs (k - j) (by omega)
  rw [K.cells, show i + j = 64 - (k - j) by omega, hc]
  have : (hexL u k).getD j 0 = ((Pl.hexD (u / 16 ^ (k - j) % 16)).toNat : Int) := by
    unfold hexL
    rw [List.getD_eq_getElem?_getD, List.getElem?_map, List.getElem?_range hj]
    rfl
  rw [this]
theorem Tryz.sizeByte65 (w : World) : (sizeOf 5).run Tryz.prog w = .ok 1 w := by kernel_rfl
theorem slice65 (w : World) (g i n : Nat) (h : i + n = 65) (h1 : 1 ≤ n := by omega) :
    (Instr.sliceAt 138 (.pointer (some ⟨g, 0, none⟩)) (some (.int .i64 (i : Int))) none none).run Tryz.prog w = .ok (.slice (some ⟨g, i, none⟩) n n) w := by
  have al : Tryz.prog.arrayLen 138 = 65 := by kernel_rfl
  have el : Tryz.prog.elem 138 = 5 := by kernel_rfl
  rw [run_sliceAt_array_l w 138 ⟨g, 0, none⟩ (by kernel_rfl) .i64 (i : Int) (by omega) (by rw [al]; omega), el, al, Tryz.sizeByte65]
  show Result.ok (slicedAt ⟨g, 0, none⟩ (i : Int).toNat 65 65 1) w = _
  unfold slicedAt
  rw [Int.toNat_natCast, if_neg (by omega), show 65 - i = n by omega]
  simp [Addr.add]
  omega
set_option maxRecDepth 100000 in
set_option maxHeartbeats 2000000 in
theorem fbits16 (u : Nat) (hu : u ≤ 65535) (w : World) (h : w.cell? ⟨8, 15, none⟩ = some (.int .u8 4)) :
    Calls Tryz.prog 70 #[.slice none 0 0, .int .u64 u, .int .i64 16, .bool false, .bool false] w fun e w' => e = .returned (.tuple #[.slice none 0 0, .string ⟨(Pl.hexW u).toArray⟩]) ∧ Ext w w' := by
  have K0 := Blk.new w 138 Tryz.zeroCells138
  have E0 := (Ext.refl w).alloc (.cells Tryz.zeroCells138 138)
  have L0 : Low (w.alloc (.cells Tryz.zeroCells138 138)) w.heap.size u 0 := ⟨_, K0, by kernel_rfl, fun j hj => absurd hj (Nat.not_lt_zero _)⟩
  have h0 := (Below.cell E0 (World.block_lt_of_cell? w _ h)).trans h
  clear K0
  go_enter Tryz.func70, Tryz.ntmps70
  go_wp2_with fail
  refine (pow16 _).mono ?_
  rintro e w' ⟨rfl, rfl⟩
  go_wp2_with fail
  refine (tz16 _ h0).mono ?_
  rintro e w' ⟨rfl, rfl⟩
  have HI := Lib.hid (And.intro L0 E0)
  clear h0 L0 E0 h
  go_wp2_with fail
  go_loopw [1, 13] (fun uv iv W => ∃ k v : Nat, k ≤ 3 ∧ uv = .int .u64 v ∧ iv = .int .i64 (65 - (k : Int)) ∧ (v = u / 16 ^ k ∧ (k = 0 ∨ 16 ≤ u / 16 ^ (k - 1))) ∧ Low W w.heap.size u k ∧ Ext w W) (fun uv _ _ => (intOf uv).toNat)
  case atStart => exact ⟨0, u, by omega, rfl, rfl, ⟨by simp, .inl rfl⟩, HI.out.1, HI.out.2⟩
  case round =>
    clear HI
    obtain ⟨k, v, hk, rfl, rfl, ⟨hv, hv1⟩, ⟨cs, K, hsz, hcs⟩, E⟩ := hrel
    have HV1 := Lib.hid hv1
    clear hv1
    obtain ⟨i, hi⟩ : ∃ i, i + k = 64 := ⟨64 - k, by omega⟩
    have e65 : 65 - (k : Int) = (i : Int) + 1 := by omega
    have HV := Lib.hid hv
    have hvu : v ≤ u := by rw [hv]; exact Nat.div_le_self _ _
    have c0 : wr.cell? ⟨w.heap.size, i, none⟩ = some (cs.getD i undef) := by
      rw [K.cells, Array.getD_eq_getD_getElem?, Array.getElem?_eq_getElem (by omega)]
      rfl
    have f0 := K.free i
    have w1 : IntKind.i64.wrap ((i : Int) + 1 - 1) = (i : Int) := by
      rw [show ((i : Int) + 1 - 1) = (i : Int) by omega]
      exact IntWalk.i64_in _ (by omega)
    rw [e65]
    clear hv
    by_cases h16 : 16 ≤ v
    case pos =>
      have hd : decide ((16 : Int) ≤ (v : Int)) = true := decide_eq_true (by omega)
      have hb := and15 v (by omega)
      have HL : Low wr w.heap.size u k := ⟨cs, K, hsz, hcs⟩
      clear K hcs
      go_wp2_with fail
      refine ⟨⟨k + 1, v / 16, ?_, by congr 1, by congr 1; omega, ⟨?_, .inr ?_⟩, HL.put hi HV.out ?_, E.set (Nat.le_refl _) _⟩, by simp [intOf]; omega⟩
      · refine Nat.not_lt.1 fun h4 => ?_
        obtain rfl : k = 3 := by omega
        have := HV.out
        omega
      · rw [HV.out, Nat.div_div_eq_div_mul, Nat.pow_succ]
      · have := HV.out
        rw [Nat.add_sub_cancel]
        omega
      · have := dig16 (n := v % 16) (v := v % 16) rfl (Nat.mod_lt _ (by omega)) (by show _ < 36; omega)
        exact congrArg Int.ofNat this
    case neg =>
      have hd : decide ((16 : Int) ≤ (v : Int)) = false := decide_eq_false (by omega)
      have HL : Low wr w.heap.size u k := ⟨cs, K, hsz, hcs⟩
      clear K hcs
      go_upto_region 25 with (fail)
      refine at_worldE (fun W => Low W w.heap.size u (k + 1) ∧ Ext w W) ⟨HL.put hi HV.out (x := _) ?_, E.set (Nat.le_refl _) _⟩ ?_
      · have := dig16 (n := v) (v := v % 16) (by omega) (Nat.mod_lt _ (by omega)) (by show _ < 36; omega)
        exact congrArg Int.ofNat this
      clear HL c0 f0 E
      rintro W3 ⟨HL, E⟩
      have HR : Ints .u8 W3 (some ⟨w.heap.size, i, none⟩) (k + 1) (hexL u k) := HL.ints hi
      have k1 := conv_str (c := k + 1) HR
      have e2 : 65 - i = k + 1 := by omega
      have ek : Pl.hexW u = Pl.hexK u k := by rw [Pl.hexW, ← Pl.hexN_of hu (by omega) (by rw [← HV.out]; omega) HV1.out]
      obtain ⟨T, hT⟩ : ∃ T : ByteArray, T = ⟨(Pl.hexW u).toArray⟩ := ⟨_, rfl⟩
      rw [hexL_str, ← ek, ← hT] at k1
      have HT := Lib.hid hT
      clear hT ek
      have hs := slice65 W3 w.heap.size i (k + 1) (by omega)
      go_wp2_with fail
      go_returns
      exact ⟨by rw [← HT.out]; rfl, E⟩
set_option maxRecDepth 100000 in
theorem ifmt16 (u : Nat) (hu : u ≤ 65535) (w : World) (h : w.cell? ⟨8, 15, none⟩ = some (.int .u8 4)) :
    Calls Tryz.prog 51 #[.int .i64 u, .int .i64 16] w fun e w' => e = .returned (.string ⟨(Pl.hexW u).toArray⟩) ∧ Ext w w' := by
  have hF := Lib.hid (fbits16 u hu w h)
  clear h
  go_enter Tryz.func51, Tryz.ntmps51
  go_wp2_with fail
  refine hF.out.mono ?_
  rintro e w' ⟨rfl, hE⟩
  go_wp2_with fail
  go_returns
  exact ⟨rfl, hE⟩
set_option maxRecDepth 100000 in
theorem fmt16 (u : Nat) (hu : u ≤ 65535) (w : World) (h : w.cell? ⟨8, 15, none⟩ = some (.int .u8 4)) :
    Calls Tryz.prog 37 #[.int .i64 u, .int .i64 16] w fun e w' => e = .returned (.string ⟨(Pl.hexW u).toArray⟩) ∧ Ext w w' := by
  have hF := Lib.hid (ifmt16 u hu w h)
  clear h
  go_enter Tryz.func37, Tryz.ntmps37
  go_wp2_with fail
  refine hF.out.mono ?_
  rintro e w' ⟨rfl, hE⟩
  go_wp2_with fail
  go_returns
  exact ⟨rfl, hE⟩
end Go.Proofs.YtonjifkjammopaaGreatDoor
