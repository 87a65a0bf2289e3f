/- The contracts of package shift: check, New, ahead, Heard, Begun. Conditions: as each theorem states them. -/
import Derived.Test.YtbjogkpepfgegaaGreatDoorK12
import Derived.Test.YtbjogkpepfgegaaGreatDoorK04
import Derived.Test.YtbjogkpepfgegaaGreatDoorK02
import Derived.Test.YtbjogkpepfgegaaGreatDoorK03
import Derived.Deep.DeepCutAuto
namespace Go.Proofs.YtbjogkpepfgegaaGreatDoor
open Go.RowKit
namespace Pl
/-- What is wrong with a segment for a stream. -/
def shFault (s : Sg) (n : Nat) : Int := if segFault s n ≠ 0 then segFault s n else if s.kind ≠ 6 then 2 else 0
end Pl
def ShChk (s : Sg) (n : Nat) (e : Ending) : Prop := e = .returned (errOf (Pl.shFault s n))
theorem shChk_of {s : Sg} {n : Nat} {q : Int} (h : Pl.shFault s n = q) (v : Value) (hv : errOf q = v) : ShChk s n (.returned v) := by unfold ShChk; rw [h, hv]

set_option maxRecDepth 100000 in
set_option maxHeartbeats 1000000 in
theorem shcheck_any (s : Sg) (a : Option Addr) (n c : Nat) (w : World) :
    Calls Tryz.prog 71 #[s.v (.slice a n c)] w fun e w' => ShChk s n e ∧ Ext w w' := by
  have K0 := Blk.new w 40 (s.cells (.slice a n c))
  have E0 : Ext w (w.alloc (.cells (s.cells (.slice a n c)) 40)) := (Ext.refl w).alloc _
  have l0 := K0.seg
  go_enter Tryz.func71, Tryz.ntmps71
  go_wp2_with ((apply load_by rfl _ _ rfl _ rfl); (focus (with_reducible assumption)))
  clear l0
  refine (scheck_any s a n c _).mono ?_
  rintro e W1 ⟨hc, q1⟩
  unfold SegChk at hc
  subst hc
  have K1 := K0.ext q1
  have E1 := E0.trans q1
  obtain ⟨c0, -⟩ := K1.sg
  by_cases hf : Pl.segFault s n = 0
  · rw [hf, errOf_zero]
    by_cases hk : s.kind = 6
    · have h6 : (s.kind != 6) = false := by simpa using hk
      have hr : Pl.shFault s n = 0 := by unfold Pl.shFault; rw [if_neg (by simpa using hf), if_neg (by simpa using hk)]
      have HR := Lib.hid hr
      clear hf hk hr
      go_wp2_with fail
      go_ret
      exact ⟨shChk_of HR.out _ rfl, E1⟩
    · have h6 : (s.kind != 6) = true := by simpa using hk
      have hr : Pl.shFault s n = 2 := by unfold Pl.shFault; rw [if_neg (by simpa using hf), if_pos hk]
      have HR := Lib.hid hr
      clear hf hk hr
      go_wp2_with fail
      go_ret
      exact ⟨shChk_of HR.out _ rfl, E1⟩
  · rw [errOf_ne hf]
    have hr : Pl.shFault s n = Pl.segFault s n := by unfold Pl.shFault; rw [if_pos hf]
    have hr' := errOf_ne hf
    generalize Pl.segFault s n = q at *
    have HR := Lib.hid hr
    have HE := Lib.hid hr'
    clear hf hr hr'
    unfold errv
    go_wp2_with fail
    go_ret
    exact ⟨shChk_of HR.out _ HE.out, E1⟩

/-- A stream in memory: its head's slice, where it starts, whether it has begun, was heard. -/
def StB (w : World) (g : Nat) (h : Value) (start : Int) (begun heard : Bool) : Prop := Blk w g 140 #[h, .int .u32 start, .bool begun, .bool heard]

theorem new_full (a : Option Addr) (n c : Nat) (w : World) (hn : 100 < n) :
    Calls Tryz.prog 70 #[.slice a n c] w fun e w' => e = .returned (.tuple #[.pointer none, errv 3]) ∧ Ext w w' := by
  go_enter Tryz.func70, Tryz.ntmps70
  go_wp2_with fail
  go_ret2
  exact ⟨rfl, Ext.refl _⟩
theorem snew_ok (a : Option Addr) (n c : Nat) (xs : List Int) (w : World) (hn : n ≤ 100) (hx : Ints .u8 w a n xs) (hc : a = none → c = 0) :
    Calls Tryz.prog 70 #[.slice a n c] w fun e w' => ∃ g h, e = .returned (.tuple #[.pointer (some ⟨g, 0, none⟩), .nilIface]) ∧ w.heap.size ≤ g ∧ StB w' g h 0 false false ∧ Own w' w.heap.size h xs ∧ (∀ k, h.ownBlock = some k → k < g) ∧ Ext w w' := by
  have hd : decide ((100 : Int) < (n : Int)) = false := by simp; omega
  go_enter Tryz.func70, Tryz.ntmps70
  go_wp2_with fail
  refine (clone_any a n c xs w hx hc (by omega)).mono ?_
  rintro e W1 ⟨v, rfl, o1, b1⟩
  obtain ⟨va, vn, vc, rfl, hvc, _⟩ := o1.read
  have E1 : Ext w W1 := b1
  have o2 := o1.ext ((Ext.refl W1).alloc (.cells #[.slice va vn vc, .int .u32 0, .bool false, .bool false] 140))
  go_wp2_with fail
  go_ret2
  exact ⟨_, _, rfl, E1.size, Blk.new _ _ _, o2, fun k hk => (o1.lt k hk).2, E1.alloc _⟩

/-- Is a number of a stream ahead of another one, by less than half of all? -/
def aheadB (a b : Int) : Bool := decide ((b - a - 1) % 4294967296 < 2147483647)
theorem ahead_any (a b : Int) (w : World) (ha : 0 ≤ a ∧ a < 4294967296) (hb : 0 ≤ b ∧ b < 4294967296) :
    Calls Tryz.prog 85 #[.int .u32 a, .int .u32 b] w fun e w' => e = .returned (.bool (aheadB a b)) ∧ w = w' := by
  obtain ⟨a0, a1⟩ := ha
  obtain ⟨b0, b1⟩ := hb
  have e1 : IntKind.u32.wrap (b - a) = (b - a) % 4294967296 := by rw [IntKind.wrap_u32]
  have e2 : IntKind.u32.wrap ((b - a) % 4294967296 - 1) = (b - a - 1) % 4294967296 := by rw [IntKind.wrap_u32]; omega
  go_enter Tryz.func85, Tryz.ntmps85
  go_wp2
  go_ret
  exact ⟨ret_bool (by unfold aheadB; rfl), rfl⟩
theorem ahead_yes (a b : Int) (w : World) (ha : 0 ≤ a ∧ a < 4294967296) (hb : 0 ≤ b ∧ b < 4294967296) (h : aheadB a b = true) :
    Calls Tryz.prog 85 #[.int .u32 a, .int .u32 b] w fun e w' => e = .returned (.bool true) ∧ w' = w := (ahead_any a b w ha hb).mono fun _ _ ⟨he, hw⟩ => ⟨by rw [he, h], hw.symm⟩
theorem ahead_no (a b : Int) (w : World) (ha : 0 ≤ a ∧ a < 4294967296) (hb : 0 ≤ b ∧ b < 4294967296) (h : aheadB a b = false) :
    Calls Tryz.prog 85 #[.int .u32 a, .int .u32 b] w fun e w' => e = .returned (.bool false) ∧ w' = w := (ahead_any a b w ha hb).mono fun _ _ ⟨he, hw⟩ => ⟨by rw [he, h], hw.symm⟩

def sg0 : Sg := ⟨0, 0, 0, 0, 0, 0, 0⟩
theorem Sg.one (s : Sg) (a : Option Addr) (n c : Nat) : (s.cells (.slice a n c)).all (·.oneCell') = true := by simp [Sg.cells, Value.oneCell']
theorem Sg.put7 (s : Sg) (d v : Value) : (s.cells d).setIfInBounds 7 v = s.cells v := rfl
theorem bits_flag : ∀ f : Fin 32, bits .and .i64 (f.val : Int) 2 = 2 * ((f.val : Int) / 2 % 2) ∧ bits .and .i64 (f.val : Int) 16 = 16 * ((f.val : Int) / 16 % 2) := by decide +kernel
theorem flag2 {f : Int} (h0 : 0 ≤ f) (h1 : f ≤ 31) : bits .and .i64 f 2 = 2 * (f / 2 % 2) := by
  have := (bits_flag ⟨f.toNat, by omega⟩).1
  simpa only [Int.toNat_of_nonneg h0] using this
theorem flag16 {f : Int} (h0 : 0 ≤ f) (h1 : f ≤ 31) : bits .and .i64 f 16 = 16 * (f / 16 % 2) := by
  have := (bits_flag ⟨f.toNat, by omega⟩).2
  simpa only [Int.toNat_of_nonneg h0] using this
/-- A segment of TCP without a fault. -/
theorem shFault_ok {s : Sg} {n : Nat} (h : Pl.shFault s n = 0) : s.kind = 6 ∧ (0 ≤ s.seq ∧ s.seq < 4294967296) ∧ (0 ≤ s.ack ∧ s.ack < 4294967296) ∧ (0 ≤ s.flags ∧ s.flags ≤ 31) ∧ n ≤ 300 := by
  unfold Pl.shFault at h
  by_cases hs : Pl.segFault s n ≠ 0
  · rw [if_pos hs] at h; exact absurd h hs
  · rw [if_neg hs] at h
    have h6 : s.kind = 6 := by
      by_cases h6 : s.kind = 6
      · exact h6
      · rw [if_pos h6] at h; omega
    have hf : Pl.segFault s n = 0 := by omega
    unfold Pl.segFault at hf
    split at hf
    · omega
    · split at hf
      · omega
      · split at hf
        · omega
        · split at hf
          · omega
          · rename_i _ h2 _ h4
            refine ⟨h6, ?_⟩
            have := fun q => h2 ⟨h6, q⟩
            omega

theorem sto {w : World} {R : Nat} (k : Blk w R 40 #[.int .i64 0, .int .i64 0, .int .i64 0, .int .i64 0, .int .i64 0, .int .i64 0, .int .i64 0, .slice none 0 0]) (s : Sg) (a : Option Addr) (n c : Nat) :
    (Instr.storeAt 40 (.pointer (some ⟨R, 0, none⟩)) (.agg (s.cells (.slice a n c)))).run Tryz.prog w = .ok () (w.setRow R (s.cells (.slice a n c))) := k.store rfl Tryz.sizeSeg (s.one a n c)
theorem sto0 {w : World} {R : Nat} (k : Blk w R 40 #[.int .i64 0, .int .i64 0, .int .i64 0, .int .i64 0, .int .i64 0, .int .i64 0, .int .i64 0, .slice none 0 0]) :
    (Instr.storeAt 40 (.pointer (some ⟨R, 0, none⟩)) (.agg #[.int .i64 0, .int .i64 0, .int .i64 0, .int .i64 0, .int .i64 0, .int .i64 0, .int .i64 0, .slice none 0 0])).run Tryz.prog w = .ok () (w.setRow R #[.int .i64 0, .int .i64 0, .int .i64 0, .int .i64 0, .int .i64 0, .int .i64 0, .int .i64 0, .slice none 0 0]) := k.store rfl Tryz.sizeSeg (by simp [Value.oneCell'])
theorem StB.lt {w : World} {g : Nat} {h : Value} {start : Int} {begun heard : Bool} (k : StB w g h start begun heard) : g < w.heap.size := Blk.lt k

/-- What Down gives: the segment's numbers and bytes, or an error. -/
def SegErr (q : Int) (e : Ending) : Prop := e = .returned (.tuple #[.agg (sg0.cells (.slice none 0 0)), errv q])

set_option maxRecDepth 100000 in
set_option maxHeartbeats 2000000 in
theorem down_fault (g : Nat) (s : Sg) (a : Option Addr) (n c : Nat) (w : World) (hf : Pl.shFault s n ≠ 0) :
    Calls Tryz.prog 44 #[.pointer (some ⟨g, 0, none⟩), s.v (.slice a n c)] w fun e w' => SegErr (Pl.shFault s n) e ∧ Ext w w' := by
  have KB := Blk.new w 40 (s.cells (.slice a n c))
  have lB := (KB.alloc (.cells #[.int .i64 0, .int .i64 0, .int .i64 0, .int .i64 0, .int .i64 0, .int .i64 0, .int .i64 0, .slice none 0 0] 40)).seg
  have HF := Lib.hid hf
  clear hf
  go_enter Tryz.func44, Tryz.ntmps44
  go_wp2_with ((apply load_by rfl _ _ rfl _ rfl); (focus (with_reducible assumption)))
  refine at_world (fun W => Ext w W ∧ Blk W (w.heap.size + 1) 40 #[.int .i64 0, .int .i64 0, .int .i64 0, .int .i64 0, .int .i64 0, .int .i64 0, .int .i64 0, .slice none 0 0]) ⟨((Ext.refl w).alloc _).alloc _, Blk.at _ _ _ (by simp)⟩ ?_
  rintro W1 ⟨E1, KR⟩
  clear KB lB
  refine (shcheck_any s a n c W1).mono ?_
  rintro e W2 ⟨hc, q2⟩
  unfold ShChk at hc
  subst hc
  rw [errOf_ne HF.out]
  generalize hq : Pl.shFault s n = q
  have HQ := Lib.hid hq
  clear hq
  have E2 := E1.trans q2
  have KR2 := KR.ext q2
  have s0 := sto0 KR2
  unfold errv
  go_wp2_with ((apply store_by rfl _ _ _ rfl _ rfl); (focus (with_reducible assumption)); (focus rfl))
  refine bodyPost_ret (results_cell2 Tryz.results44 _ _ (w.heap.size + 1) 40 #[.int .i64 0, .int .i64 0, .int .i64 0, .int .i64 0, .int .i64 0, .int .i64 0, .int .i64 0, .slice none 0 0] _ rfl (KR2.row _) Tryz.underlying40 rfl Tryz.sizeSeg) rfl ⟨by rw [HQ.out]; rfl, E2.row (by omega) _⟩

set_option maxRecDepth 100000 in
set_option maxHeartbeats 2000000 in
theorem down_state (g : Nat) (h : Value) (start : Int) (heard : Bool) (s : Sg) (a : Option Addr) (n c : Nat) (w : World) (hf : Pl.shFault s n = 0) (K : StB w g h start false heard) :
    Calls Tryz.prog 44 #[.pointer (some ⟨g, 0, none⟩), s.v (.slice a n c)] w fun e w' => SegErr 9 e ∧ Ext w w' := by
  have KB := Blk.new w 40 (s.cells (.slice a n c))
  have lB := (KB.alloc (.cells #[.int .i64 0, .int .i64 0, .int .i64 0, .int .i64 0, .int .i64 0, .int .i64 0, .int .i64 0, .slice none 0 0] 40)).seg
  have HF := Lib.hid hf
  clear hf
  go_enter Tryz.func44, Tryz.ntmps44
  go_wp2_with ((apply load_by rfl _ _ rfl _ rfl); (focus (with_reducible assumption)))
  refine at_world (fun W => Ext w W ∧ Blk W (w.heap.size + 1) 40 #[.int .i64 0, .int .i64 0, .int .i64 0, .int .i64 0, .int .i64 0, .int .i64 0, .int .i64 0, .slice none 0 0]) ⟨((Ext.refl w).alloc _).alloc _, Blk.at _ _ _ (by simp)⟩ ?_
  rintro W1 ⟨E1, KR⟩
  clear KB lB
  refine (shcheck_any s a n c W1).mono ?_
  rintro e W2 ⟨hc, q2⟩
  unfold ShChk at hc
  subst hc
  rw [HF.out, errOf_zero]
  have E2 := E1.trans q2
  have KR2 := KR.ext q2
  have s0 := sto0 KR2
  have c2 : W2.cell? ⟨g, 2, none⟩ = some (.bool false) := Blk.cells (Blk.ext K E2) 2
  clear K
  go_wp2_with ((apply store_by rfl _ _ _ rfl _ rfl); (focus (with_reducible assumption)); (focus rfl))
  refine bodyPost_ret (results_cell2 Tryz.results44 _ _ (w.heap.size + 1) 40 #[.int .i64 0, .int .i64 0, .int .i64 0, .int .i64 0, .int .i64 0, .int .i64 0, .int .i64 0, .slice none 0 0] _ rfl (KR2.row _) Tryz.underlying40 rfl Tryz.sizeSeg) rfl ⟨rfl, E2.row (by omega) _⟩

theorem Own.row {w : World} {B : Nat} {v : Value} {xs : List Int} (h : Own w B v xs) {k : Nat} (hk : ∀ j, v.ownBlock = some j → j ≠ k) (cs : Array Value) : Own (w.setRow k cs) B v xs := by
  refine ⟨h.1, ?_⟩
  rcases h.2 with hn | ⟨g, cap, cur, rfl, hg, hh, rest⟩
  · exact .inl hn
  · exact .inr ⟨g, cap, cur, rfl, hg, by rw [setRow_other _ _ _ _ (hk g rfl)]; exact hh, rest⟩
theorem Own.off {w : World} {B : Nat} {v : Value} {xs : List Int} (h : Own w B v xs) {p : Addr} (hk : ∀ j, v.ownBlock = some j → j ≠ p.block) (u : Value) : Own (w.setCell p u) B v xs := by
  refine ⟨h.1, ?_⟩
  rcases h.2 with hn | ⟨g, cap, cur, rfl, hg, hh, rest⟩
  · exact .inl hn
  · exact .inr ⟨g, cap, cur, rfl, hg, (Below.heap_setCell w p u g (hk g rfl)).trans hh, rest⟩
theorem Ext.only {a b : World} (h : Ext a b) (g : Nat) : a.grownBy b (some g) := ⟨h.os, h.tape, h.output, h.size, fun i hi _ => h.block i hi⟩
/-- The segment that goes down, its bytes copied. -/
def SegGot (w : World) (s : Sg) (xs : List Int) (e : Ending) (w' : World) : Prop := ∃ v, e = .returned (.tuple #[.agg (s.cells v), .nilIface]) ∧ Own w' w.heap.size v xs

set_option maxRecDepth 100000 in
set_option maxHeartbeats 4000000 in
theorem down_ok (g : Nat) (h : Value) (start : Int) (heard : Bool) (s : Sg) (a : Option Addr) (n c : Nat) (xs : List Int) (w : World) (hf : Pl.shFault s n = 0) (K : StB w g h start true heard) (hst : 0 ≤ start ∧ start < 4294967296)
    (hx : Ints .u8 w a n xs) (hc : a = none → c = 0) :
    Calls Tryz.prog 44 #[.pointer (some ⟨g, 0, none⟩), s.v (.slice a n c)] w fun e w' =>
      (s.flags / 16 % 2 = 0 → SegGot w s xs e w' ∧ Ext w w') ∧
      (s.flags / 16 % 2 = 1 → aheadB s.ack start = true → SegGot w { s with ack := start } xs e w' ∧ Ext w w') ∧
      (s.flags / 16 % 2 = 1 → aheadB s.ack start = false → SegGot w s xs e w' ∧ StB w' g h start true true ∧ w.grownBy w' (some g)) := by
  have KB := Blk.new w 40 (s.cells (.slice a n c))
  have lB := (KB.alloc (.cells #[.int .i64 0, .int .i64 0, .int .i64 0, .int .i64 0, .int .i64 0, .int .i64 0, .int .i64 0, .slice none 0 0] 40)).seg
  have KB1 := KB.alloc (.cells #[.int .i64 0, .int .i64 0, .int .i64 0, .int .i64 0, .int .i64 0, .int .i64 0, .int .i64 0, .slice none 0 0] 40)
  have HF := Lib.hid hf
  obtain ⟨-, -, ⟨k0, k1⟩, ⟨f0, f1⟩, hn⟩ := shFault_ok hf
  have HX := Lib.hid hx
  have HC := Lib.hid hc
  obtain ⟨s0, s1⟩ := hst
  have hgl := K.lt
  clear hf hx hc
  go_enter Tryz.func44, Tryz.ntmps44
  go_wp2_with ((apply load_by rfl _ _ rfl _ rfl); (focus (with_reducible assumption)))
  refine at_world (fun W => Ext w W ∧ Blk W (w.heap.size + 1) 40 #[.int .i64 0, .int .i64 0, .int .i64 0, .int .i64 0, .int .i64 0, .int .i64 0, .int .i64 0, .slice none 0 0] ∧ Blk W w.heap.size 40 (s.cells (.slice a n c))) ⟨((Ext.refl w).alloc _).alloc _, Blk.at _ _ _ (by simp), KB1⟩ ?_
  rintro W1 ⟨E1, KR, KS⟩
  clear KB KB1 lB
  refine (shcheck_any s a n c W1).mono ?_
  rintro e W2 ⟨hc, q2⟩
  unfold ShChk at hc
  subst hc
  rw [HF.out, errOf_zero]
  have E2 := E1.trans q2
  have KR2 := KR.ext q2
  have KS2 := KS.ext q2
  have c2 : W2.cell? ⟨g, 2, none⟩ = some (.bool true) := Blk.cells (Blk.ext K E2) 2
  obtain ⟨d0, d1, d2, d3, d4, d5, d6, d7⟩ := KS2.sg
  go_wp2_with fail
  clear d0 d1 d2 d3 d4 d5 d6 d7 c2
  refine (clone_any a n c xs W2 (HX.out.ext E2) HC.out (by omega)).mono ?_
  rintro e W3 ⟨v, rfl, o3, q3⟩
  obtain ⟨va, vn, vc, rfl, hvc, _⟩ := o3.read
  have E3 : Ext w W3 := E2.trans q3
  have KR3 := KR2.ext q3
  have KS3 := KS2.ext q3
  have KG3 : StB W3 g h start true heard := Blk.ext K E3
  obtain ⟨d0, d1, d2, d3, d4, d5, d6, d7⟩ := KS3.sg
  have df := KS3.free 7
  have hfl := flag16 f0 f1
  have o4 : Own (W3.setCell ⟨w.heap.size, 7, none⟩ (.slice va vn vc)) w.heap.size (.slice va vn vc) xs := by
    have := o3.setOther (p := ⟨w.heap.size, 7, none⟩) (by have := E2.size; have := KR2.lt; show w.heap.size < W2.heap.size; omega) (.slice va vn vc)
    exact this.mono E2.size
  have KS4 : Blk (W3.setCell ⟨w.heap.size, 7, none⟩ (.slice va vn vc)) w.heap.size 40 (s.cells (.slice va vn vc)) := KS3.put 7 _
  have KR4 : Blk (W3.setCell ⟨w.heap.size, 7, none⟩ (.slice va vn vc)) (w.heap.size + 1) 40 #[.int .i64 0, .int .i64 0, .int .i64 0, .int .i64 0, .int .i64 0, .int .i64 0, .int .i64 0, .slice none 0 0] := KR3.far (by show w.heap.size + 1 ≠ w.heap.size; omega) _
  have KG4 : StB (W3.setCell ⟨w.heap.size, 7, none⟩ (.slice va vn vc)) g h start true heard := Blk.far KG3 (by show g ≠ w.heap.size; omega) _
  have E4 : Ext w (W3.setCell ⟨w.heap.size, 7, none⟩ (.slice va vn vc)) := E3.set (p := ⟨w.heap.size, 7, none⟩) (Nat.le_refl _) _
  have hob : ∀ k, (Value.slice va vn vc).ownBlock = some k → k ≠ w.heap.size + 1 ∧ k ≠ w.heap.size ∧ k ≠ g := fun k hk => by
    have h1 := o3.lt k hk
    have h2 := KR2.lt
    have h3 := K.lt
    omega
  clear KS3 KR3 KG3 E3 o3 q3 hvc KS KR KS2 KR2 q2
  by_cases hA : s.flags / 16 % 2 = 0
  case pos =>
    have HA := Lib.hid hA
    have hfz : (16 * (s.flags / 16 % 2) == 0) = true := by rw [hA]; rfl
    have l4 := KS4.seg
    have t4 := sto KR4 s va vn vc
    clear hA
    go_wp2_with (first | ((apply load_by rfl _ _ rfl _ rfl); (focus (with_reducible assumption))) | ((apply store_by rfl _ _ _ rfl _ rfl); (focus (with_reducible assumption)); (focus rfl)))
    refine bodyPost_ret (results_cell2 Tryz.results44 _ _ (w.heap.size + 1) 40 _ _ rfl (KR4.row _) Tryz.underlying40 rfl Tryz.sizeSeg) rfl ?_
    refine ⟨fun _ => ⟨⟨_, rfl, o4.row (fun k hk => (hob k hk).1) _⟩, E4.row (by omega) _⟩, fun h1 => ?_, fun h1 => ?_⟩
    · have := HA.out; omega
    · have := HA.out; omega
  case neg =>
    have hA1 : s.flags / 16 % 2 = 1 := by omega
    have HA := Lib.hid hA1
    have hfz : (16 * (s.flags / 16 % 2) == 0) = false := by rw [hA1]; rfl
    have e4 := KS4.sg.2.2.2.2.1
    have g1 : (W3.setCell ⟨w.heap.size, 7, none⟩ (.slice va vn vc)).cell? ⟨g, 1, none⟩ = some (.int .u32 start) := Blk.cells KG4 1
    have f4 := KS4.free 4
    have gf : (W3.setCell ⟨w.heap.size, 7, none⟩ (.slice va vn vc)).frozen? ⟨g, 3, none⟩ = false := Blk.free KG4 3
    have g3 : (W3.setCell ⟨w.heap.size, 7, none⟩ (.slice va vn vc)).cell? ⟨g, 3, none⟩ = some (.bool heard) := Blk.cells KG4 3
    have ewa : IntKind.u32.wrap s.ack = s.ack := IntWalk.u32_in _ (by omega)
    have ews : IntKind.i64.wrap start = start := IntWalk.i64_in _ (by omega)
    clear hA hA1
    by_cases hh : aheadB s.ack start = true
    case pos =>
      have HH := Lib.hid hh
      clear hh
      go_wp2_with fail
      go_quiet ((go_at_call 85; exact Calls.quiet_of_same (ahead_yes s.ack start _ ⟨k0, k1⟩ ⟨s0, s1⟩ HH.out)))
      go_upto_region 12 with (fail)
      have KS5 : Blk (((W3.setCell ⟨w.heap.size, 7, none⟩ (.slice va vn vc)).drewN nq).setCell ⟨w.heap.size, 4, none⟩ (.int .i64 start)) w.heap.size 40 ({ s with ack := start }.cells (.slice va vn vc)) := (KS4.drewN nq).put 4 _
      have KR5 := (KR4.drewN nq).far (p := ⟨w.heap.size, 4, none⟩) (by show w.heap.size + 1 ≠ w.heap.size; omega) (.int .i64 start)
      have E5 := (E4.drewN nq).set (p := ⟨w.heap.size, 4, none⟩) (Nat.le_refl _) (.int .i64 start)
      have o5 := (o4.drewN nq).off (p := ⟨w.heap.size, 4, none⟩) (fun k hk => (hob k hk).2.1) (.int .i64 start)
      have l5 := KS5.seg
      have t5 := sto KR5 { s with ack := start } va vn vc
      go_wp2_with (first | ((apply load_by rfl _ _ rfl _ rfl); (focus (with_reducible assumption))) | ((apply store_by rfl _ _ _ rfl _ rfl); (focus (with_reducible assumption)); (focus rfl)))
      refine bodyPost_ret (results_cell2 Tryz.results44 _ _ (w.heap.size + 1) 40 _ _ rfl (KR5.row _) Tryz.underlying40 rfl Tryz.sizeSeg) rfl ?_
      refine ⟨fun h0 => ?_, fun _ _ => ⟨⟨_, rfl, o5.row (fun k hk => (hob k hk).1) _⟩, E5.row (by omega) _⟩, fun _ h1 => ?_⟩
      · have := HA.out; omega
      · rw [HH.out] at h1; cases h1
    case neg =>
      have hh' : aheadB s.ack start = false := by simpa using hh
      have HH := Lib.hid hh'
      clear hh hh'
      go_wp2_with fail
      go_quiet ((go_at_call 85; exact Calls.quiet_of_same (ahead_no s.ack start _ ⟨k0, k1⟩ ⟨s0, s1⟩ HH.out)))
      go_upto_region 12 with (fail)
      have hgl := K.lt
      have KS5 := (KS4.drewN nq).far (p := ⟨g, 3, none⟩) (by show w.heap.size ≠ g; omega) (.bool true)
      have KG5 : StB (((W3.setCell ⟨w.heap.size, 7, none⟩ (.slice va vn vc)).drewN nq).setCell ⟨g, 3, none⟩ (.bool true)) g h start true true := (Blk.drewN KG4 nq).put 3 _
      have KR5 := (KR4.drewN nq).far (p := ⟨g, 3, none⟩) (by show w.heap.size + 1 ≠ g; omega) (.bool true)
      have G5 := only_set ((E4.drewN nq).only g) 3 (.bool true)
      have o5 := (o4.drewN nq).off (p := ⟨g, 3, none⟩) (fun k hk => (hob k hk).2.2) (.bool true)
      have l5 := KS5.seg
      have t5 := sto KR5 s va vn vc
      go_wp2_with (first | ((apply load_by rfl _ _ rfl _ rfl); (focus (with_reducible assumption))) | ((apply store_by rfl _ _ _ rfl _ rfl); (focus (with_reducible assumption)); (focus rfl)))
      refine bodyPost_ret (results_cell2 Tryz.results44 _ _ (w.heap.size + 1) 40 _ _ rfl (KR5.row _) Tryz.underlying40 rfl Tryz.sizeSeg) rfl ?_
      refine ⟨fun h0 => ?_, fun _ h1 => ?_, fun _ _ => ⟨⟨_, rfl, o5.row (fun k hk => (hob k hk).1) _⟩, Blk.farRow KG5 (by omega) _, only_row G5 (by omega) _⟩⟩
      · have := HA.out; omega
      · rw [HH.out] at h1; cases h1
end Go.Proofs.YtbjogkpepfgegaaGreatDoor
