/- The contract of Up at a segment that is no SYN. Conditions: as each theorem states them. -/
import Derived.Test.YtkjchddidpjjmaaDoorUp
import Derived.Test.YtkjchddidpjjmaaDoorConcat
import Derived.Test.YtkjchddidpjjmaaDoorBits
import Derived.BigQuiet
import Derived.Deep.RegionLaw
namespace Go.Proofs.YtkjchddidpjjmaaDoor
open Go.RowKit

/-- A world in the midst of a walk is named by what is known of it. -/
theorem at_worldC {P : Program} {c : Code} {Q : Exit → Act → World → Prop} {a : Act} {W : World} (X : World → Prop) (h : X W) (k : ∀ W', X W' → c.wp P Q a W') : c.wp P Q a W := k W h
theorem flag2z {f : Int} (h0 : 0 ≤ f) (h1 : f ≤ 31) (h : f / 2 % 2 = 0) : bits .and .i64 f 2 = 0 := by rw [flag2 h0 h1, h]; rfl

/-- What Up gives at a segment that is no SYN. -/
def UpPost (w : World) (hn n : Nat) (start : Int) (heard : Bool) (s : Sg) (hx xs : List Int) (e : Ending) (w' : World) : Prop :=
  ((s.seq ≠ start ∨ heard = true) → SegGot w s xs e w' ∧ Ext w w') ∧
  (s.seq = start → heard = false → hn + n ≤ 300 → SegGot w { s with seq := ser (s.seq - hn) } (hx ++ xs) e w' ∧ Ext w w') ∧
  (s.seq = start → heard = false → 300 < hn + n → SegErr 3 e ∧ Ext w w')
theorem keep3 {a b : World} {p q : Addr} {u v : Value} (h : Ext a b) (hp : p.block < a.heap.size) (hq : q.block < a.heap.size) (x : a.cell? p = some u ∧ a.cell? q = some v ∧ a.frozen? p = false) : b.cell? p = some u ∧ b.cell? q = some v ∧ b.frozen? p = false :=
  ⟨(World.cell?_of_block (Below.block h _ hp)).trans x.1, (World.cell?_of_block (Below.block h _ hq)).trans x.2.1, (World.frozen?_of_block (Below.block h _ hp)).trans x.2.2⟩
set_option maxRecDepth 100000 in
set_option maxHeartbeats 4000000 in
theorem up_data (g : Nat) (ha : Option Addr) (hn hc : Nat) (hx : List Int) (start : Int) (heard : Bool) (s : Sg) (a : Option Addr) (n c : Nat) (xs : List Int) (w : World) (hf : Pl.shFault s n = 0)
    (K : StB w g (.slice ha hn hc) start true heard) (hst : 0 ≤ start ∧ start < 4294967296)
    (hhx : Ints .u8 w ha hn hx) (hdx : Ints .u8 w a n xs) (hac : a = none → c = 0) (hh : hn ≤ 100) (hfl : s.flags / 2 % 2 = 0) :
    Calls Tryd.prog 23 #[.pointer (some ⟨g, 0, none⟩), s.v (.slice a n c)] w fun e w' => UpPost w hn n start heard s hx xs e w' := by
  have KB := Blk.new w 50 (s.cells (.slice a n c))
  have lB := (KB.alloc (.cells #[.int .i64 0, .int .i64 0, .int .i64 0, .int .i64 0, .int .i64 0, .int .i64 0, .int .i64 0, .slice none 0 0] 50)).seg
  have KB1 := KB.alloc (.cells #[.int .i64 0, .int .i64 0, .int .i64 0, .int .i64 0, .int .i64 0, .int .i64 0, .int .i64 0, .slice none 0 0] 50)
  have HF := Lib.hid hf
  obtain ⟨-, ⟨q0, q1⟩, -, ⟨f0, f1⟩, hn3⟩ := shFault_ok hf
  have HX := Lib.hid hdx
  have HH := Lib.hid hhx
  have HC := Lib.hid hac
  have HST := Lib.hid hst
  have hgl := K.lt
  have hfl2 := flag2z f0 f1 hfl
  have HHN := Lib.hid hh
  clear hf hdx hhx hac hfl hst
  go_enter Tryd.func23, Tryd.ntmps23
  go_wp2_with ((apply load_by rfl _ _ rfl _ rfl); (focus (with_reducible assumption)))
  refine at_world (fun W => Ext w W ∧ Blk W (w.heap.size + 1) 50 #[.int .i64 0, .int .i64 0, .int .i64 0, .int .i64 0, .int .i64 0, .int .i64 0, .int .i64 0, .slice none 0 0] ∧ Blk W w.heap.size 50 (s.cells (.slice a n c))) ⟨((Ext.refl w).alloc _).alloc _, Blk.at _ _ _ (by simp), KB1⟩ ?_
  rintro W1 ⟨E1, KR, KS⟩
  clear KB KB1 lB
  refine (shcheck_any s a n c W1).mono ?_
  rintro e W2 ⟨hc, q2⟩
  unfold ShChk at hc
  subst hc
  rw [HF.out, errOf_zero]
  have E2 := E1.trans q2
  have KR2 := KR.ext q2
  have KS2 := KS.ext q2
  obtain ⟨d0, d1, d2, d3, d4, d5, d6, d7⟩ := KS2.sg
  go_wp2_with fail
  clear d0 d1 d2 d3 d4 d5 d6 d7
  refine (clone_any a n c xs W2 (HX.out.ext E2) HC.out (by omega)).mono ?_
  rintro e W3 ⟨v, rfl, o3, q3⟩
  obtain ⟨va, vn, vc, rfl, hvc, hvl⟩ := o3.read
  obtain rfl : n = vn := HX.out.len.symm.trans hvl.len
  have E3 : Ext w W3 := E2.trans q3
  have hob : ∀ k, (Value.slice va n vc).ownBlock = some k → k ≠ w.heap.size + 1 ∧ k ≠ w.heap.size ∧ k ≠ g := fun k hk => by
    have h1 := o3.lt k hk
    have h2 := KR2.lt
    omega
  have KR3 := KR2.ext q3
  have KS3 := KS2.ext q3
  have KG3 : StB W3 g (.slice ha hn hc) start true heard := Blk.ext K E3
  have df7 := KS3.free 7
  have dc7 : W3.cell? ⟨w.heap.size, 7, none⟩ = some (.slice a n c) := KS3.cells 7
  have hgl' : ¬ w.heap.size = g := by omega
  have hgl2 : ¬ g = w.heap.size := by omega
  have hR1 : ¬ w.heap.size + 1 = w.heap.size := by omega
  have KS4 : Blk (W3.setCell ⟨w.heap.size, 7, none⟩ (.slice va n vc)) w.heap.size 50 (s.cells (.slice va n vc)) := KS3.put 7 _
  have KG4 : StB (W3.setCell ⟨w.heap.size, 7, none⟩ (.slice va n vc)) g (.slice ha hn hc) start true heard := Blk.far KG3 (p := ⟨w.heap.size, 7, none⟩) hgl2 _
  have KR4 := KR3.far (p := ⟨w.heap.size, 7, none⟩) hR1 (.slice va n vc)
  have E4 := E3.set (p := ⟨w.heap.size, 7, none⟩) (Nat.le_refl _) (.slice va n vc)
  have o4 := o3.off (p := ⟨w.heap.size, 7, none⟩) (fun k hk => (hob k hk).2.1) (.slice va n vc)
  have o4w := o4.mono E2.size
  have HV := Lib.hid hvl
  clear hvl KG3 KR3 o3 KS KR KS2 KR2 q2 E1 o4
  go_upto_region 5 with (fail)
  refine at_worldC (fun W => Ext w W ∧ Blk W (w.heap.size + 1) 50 #[.int .i64 0, .int .i64 0, .int .i64 0, .int .i64 0, .int .i64 0, .int .i64 0, .int .i64 0, .slice none 0 0] ∧ Blk W w.heap.size 50 (s.cells (.slice va n vc)) ∧ StB W g (.slice ha hn hc) start true heard ∧ Own W w.heap.size (.slice va n vc) xs) ⟨E4, KR4, KS4, KG4, o4w⟩ ?_
  rintro W5 ⟨E5, KR5, KS5, KG5, o5⟩
  clear E4 KR4 KS4 KG4 o4w q3 E3 E2 df7 dc7 KS3
  obtain ⟨d0, d1, d2, d3, d4, d5, d6, d7⟩ := KS5.sg
  have b0 : W5.cell? ⟨g, 0, none⟩ = some (.slice ha hn hc) := Blk.cells KG5 0
  have b1 : W5.cell? ⟨g, 1, none⟩ = some (.int .u32 start) := Blk.cells KG5 1
  have b2 : W5.cell? ⟨g, 2, none⟩ = some (.bool true) := Blk.cells KG5 2
  have b3 : W5.cell? ⟨g, 3, none⟩ = some (.bool heard) := Blk.cells KG5 3
  have ew0 : IntKind.u32.wrap (hn : Int) = hn := IntWalk.u32_in _ (by have := HHN.out; omega)
  have ew1 : IntKind.u32.wrap s.seq = s.seq := IntWalk.u32_in _ (by omega)
  go_upto_region 16 with (fail)
  by_cases hsq : s.seq = start
  case neg =>
    have hs : (s.seq != start) = true := by simpa using hsq
    have HSQ := Lib.hid hsq
    clear hsq
    go_quiet (fail)
    have l6 := (KS5.drewN nq).seg
    have t6 := sto (KR5.drewN nq) s va n vc
    go_wp2_with (first | ((apply load_by rfl _ _ rfl _ rfl); (focus (with_reducible assumption))) | ((apply store_by rfl _ _ _ rfl _ rfl); (focus (with_reducible assumption)); (focus rfl)))
    refine bodyPost_ret (results_cell2 Tryd.results23 _ _ (w.heap.size + 1) 50 _ _ rfl ((KR5.drewN nq).row _) Tryd.underlying50 rfl Tryd.sizeSeg) rfl ?_
    unfold UpPost
    exact ⟨fun _ => ⟨⟨_, rfl, (o5.drewN nq).row (fun k hk => (hob k hk).1) _⟩, (E5.drewN nq).row (by omega) _⟩, fun h => absurd h HSQ.out, fun h => absurd h HSQ.out⟩
  have hs : (s.seq != start) = false := by simpa using hsq
  have HSQ := Lib.hid hsq
  clear hsq
  cases heard
  case true =>
    go_quiet (fail)
    have l6 := (KS5.drewN nq).seg
    have t6 := sto (KR5.drewN nq) s va n vc
    go_wp2_with (first | ((apply load_by rfl _ _ rfl _ rfl); (focus (with_reducible assumption))) | ((apply store_by rfl _ _ _ rfl _ rfl); (focus (with_reducible assumption)); (focus rfl)))
    refine bodyPost_ret (results_cell2 Tryd.results23 _ _ (w.heap.size + 1) 50 _ _ rfl ((KR5.drewN nq).row _) Tryd.underlying50 rfl Tryd.sizeSeg) rfl ?_
    unfold UpPost
    exact ⟨fun _ => ⟨⟨_, rfl, (o5.drewN nq).row (fun k hk => (hob k hk).1) _⟩, (E5.drewN nq).row (by omega) _⟩, fun _ h => Bool.noConfusion h, fun _ h => Bool.noConfusion h⟩
  have hhn := HHN.out
  go_quiet (fail)
  go_wp2_with fail
  refine at_worldC (fun W => Ext w W ∧ Blk W (w.heap.size + 1) 50 #[.int .i64 0, .int .i64 0, .int .i64 0, .int .i64 0, .int .i64 0, .int .i64 0, .int .i64 0, .slice none 0 0] ∧ Blk W w.heap.size 50 (s.cells (.slice va n vc)) ∧ StB W g (.slice ha hn hc) start true false ∧ Own W w.heap.size (.slice va n vc) xs) ⟨E5.drewN nq, KR5.drewN nq, KS5.drewN nq, Blk.drewN KG5 nq, o5.drewN nq⟩ ?_
  rintro W6 ⟨E6, KR6, KS6, KG6, o6⟩
  clear E5 KR5 KS5 KG5 o5 d0 d1 d2 d3 d4 d5 d6 d7 b0 b1 b2 b3
  have d3 : W6.cell? ⟨w.heap.size, 3, none⟩ = some (.int .i64 s.seq) := KS6.cells 3
  have d7 : W6.cell? ⟨w.heap.size, 7, none⟩ = some (.slice va n vc) := KS6.cells 7
  have b0 : W6.cell? ⟨g, 0, none⟩ = some (.slice ha hn hc) := Blk.cells KG6 0
  have df3 := KS6.free 3
  by_cases hlen : hn + n ≤ 300
  case neg =>
    have hl : decide ((300 : Int) < (hn : Int) + (n : Int)) = true := by simp; omega
    have HL := Lib.hid hlen
    clear hlen
    go_quiet (fail)
    have s0 := sto0 (KR6.drewN nq)
    go_wp2_with ((apply store_by rfl _ _ _ rfl _ rfl); (focus (with_reducible assumption)); (focus rfl))
    refine bodyPost_ret (results_cell2 Tryd.results23 _ _ (w.heap.size + 1) 50 _ _ rfl ((KR6.drewN nq).row _) Tryd.underlying50 rfl Tryd.sizeSeg) rfl ?_
    unfold UpPost
    refine ⟨fun h => ?_, fun _ _ h => absurd h HL.out, fun _ _ _ => ⟨rfl, (E6.drewN nq).row (by omega) _⟩⟩
    rcases h with h | h
    · exact absurd HSQ.out h
    · cases h
  case pos =>
    have hl : decide ((300 : Int) < (hn : Int) + (n : Int)) = false := by simp; omega
    have HL := Lib.hid hlen
    clear hlen
    go_quiet (fail)
    have ew2 : IntKind.u32.wrap (s.seq - hn) = ser (s.seq - hn) := by rw [IntKind.wrap_u32]; rfl
    have r0 : 0 ≤ ser (s.seq - hn) ∧ ser (s.seq - hn) < 4294967296 := by unfold ser; omega
    have ew3 : IntKind.i64.wrap (ser (s.seq - hn)) = ser (s.seq - hn) := IntWalk.i64_in _ (by omega)
    generalize hy : ser (s.seq - hn) = y at *
    go_upto_region 21 with (fail)
    refine at_worldC (fun W => Ext w W ∧ Blk W (w.heap.size + 1) 50 #[.int .i64 0, .int .i64 0, .int .i64 0, .int .i64 0, .int .i64 0, .int .i64 0, .int .i64 0, .slice none 0 0] ∧ Blk W w.heap.size 50 ({ s with seq := y }.cells (.slice va n vc)) ∧ StB W g (.slice ha hn hc) start true false ∧ Own W w.heap.size (.slice va n vc) xs)
      ⟨(E6.drewN nq).set (p := ⟨w.heap.size, 3, none⟩) (Nat.le_refl _) _, (KR6.drewN nq).far (p := ⟨w.heap.size, 3, none⟩) hR1 _, (KS6.drewN nq).put 3 _, Blk.far (Blk.drewN KG6 nq) (p := ⟨w.heap.size, 3, none⟩) hgl2 _, (o6.drewN nq).off (p := ⟨w.heap.size, 3, none⟩) (fun k hk => (hob k hk).2.1) _⟩ ?_
    rintro W7 ⟨E7, KR7, KS7, KG7, o7⟩
    clear E6 KR6 KS6 KG6 o6 d3 d7 b0 df3 ew2 ew3
    have d7 : W7.cell? ⟨w.heap.size, 7, none⟩ = some (.slice va n vc) := KS7.cells 7
    have b0 : W7.cell? ⟨g, 0, none⟩ = some (.slice ha hn hc) := Blk.cells KG7 0
    have df7 := KS7.free 7
    obtain ⟨_, _, _, hpv, _, r7⟩ := o7.read
    cases hpv
    have i7 : Ints .u8 W7 ha hn hx := HH.out.ext E7
    have hz7 := KR7.lt
    have hgz : g < W7.heap.size := by omega
    go_region_law (first
        | (go_simp; go_at_call 61; refine (concat2 W7.heap.size ha hn hc hx va n vc xs _ (by first | exact Blk.new W7 _ _ | exact (Blk.new W7 _ _).drew) (i7.ext (by first | exact (Ext.refl W7).alloc _ | exact ((Ext.refl W7).alloc _).drew)) (r7.ext (by first | exact (Ext.refl W7).alloc _ | exact ((Ext.refl W7).alloc _).drew)) (by omega)).mono ?_; rintro e W8 ⟨v8, rfl, o8, q8⟩; obtain ⟨a8, n8, c8, rfl, _, _⟩ := o8.read; have E8 : Ext W7 W8 := (by first | exact ((Ext.refl W7).alloc _).trans q8 | exact (((Ext.refl W7).alloc _).drew).trans q8); have o8' := o8.mono (show W7.heap.size ≤ _ by simp); have K8 := Blk.ext KS7 E8; have e8 : W8.cell? ⟨w.heap.size, 7, none⟩ = some (.slice va n vc) := K8.cells 7; have f8 := K8.free 7))
    all_goals
      have hob8 : ∀ k, (Value.slice a8 n8 c8).ownBlock = some k → k ≠ w.heap.size + 1 ∧ k ≠ w.heap.size := fun k hk => by
        have h1 := o8'.lt k hk
        omega
      have o9 := (o8'.mono E7.size).off (p := ⟨w.heap.size, 7, none⟩) (fun k hk => (hob8 k hk).2) (.slice a8 n8 c8)
      have KR9 := (KR7.ext E8).far (p := ⟨w.heap.size, 7, none⟩) hR1 (.slice a8 n8 c8)
      have KS9 : Blk (W8.setCell ⟨w.heap.size, 7, none⟩ (.slice a8 n8 c8)) w.heap.size 50 ({ s with seq := y }.cells (.slice a8 n8 c8)) := K8.put 7 _
      have E9 := (E7.trans E8).set (p := ⟨w.heap.size, 7, none⟩) (Nat.le_refl _) (.slice a8 n8 c8)
      have l9 := KS9.seg
      have t9 := sto KR9 { s with seq := y } a8 n8 c8
      clear d7 b0 df7 e8 f8
      go_wp2_with (first | ((apply load_by rfl _ _ rfl _ rfl); (focus (with_reducible assumption))) | ((apply store_by rfl _ _ _ rfl _ rfl); (focus (with_reducible assumption)); (focus rfl)))
      refine bodyPost_ret (results_cell2 Tryd.results23 _ _ (w.heap.size + 1) 50 _ _ rfl (KR9.row _) Tryd.underlying50 rfl Tryd.sizeSeg) rfl ?_
      subst hy
      unfold UpPost
      refine ⟨fun h => ?_, fun _ _ _ => ⟨⟨_, rfl, o9.row (fun k hk => (hob8 k hk).1) _⟩, E9.row (by omega) _⟩, fun _ _ h => absurd HL.out (by omega)⟩
      rcases h with h | h
      · exact absurd HSQ.out h
      · cases h
end Go.Proofs.YtkjchddidpjjmaaDoor
