/- Lemmas of this seat, bound together: SegL Bind0 MapR EmbL. Conditions: as each lemma states them. -/
import Derived.Test.YtbjogkpepfgegaaDoorK20
import Derived.Test.YtbjogkpepfgegaaDoorK22
import Derived.Test.YtbjogkpepfgegaaDoorK07
import Derived.Deep.DeepCutAuto
import Derived.Maps.RangeWalk
import Derived.Maps.RangeRun
import Derived.Test.YtbjogkpepfgegaaDoorK03
namespace Go.Proofs.YtbjogkpepfgegaaDoor
namespace Pl
theorem segBytes_drop {s : Sg} {c : Int} {xs : List Int} (h : s.kind = 6 ∨ s.kind = 17) : (segBytes s c xs).drop (segSize s.kind) = xs := by
  unfold segBytes segWords segSize
  rcases h with h | h <;> rw [h] <;> rfl
theorem segBytes_at {s : Sg} {c : Int} {xs : List Int} (h : s.kind = 6 ∨ s.kind = 17) : at2 (segBytes s c xs) (segAt s.kind) = c := by
  have e : c / 256 * 256 + c % 256 = c := by omega
  unfold segBytes segWords segAt at2
  rcases h with h | h <;> rw [h] <;> exact e
theorem segBytes_is {s : Sg} {c : Int} {xs : List Int} (h : SegOk s xs.length) : IsSeg s.kind (segBytes s c xs) := by
  have hk := h.1
  have hl := segBytes_length (c := c) (xs := xs) hk
  obtain ⟨_, _, _, _, _, ⟨f0, f1⟩, _, _, hn⟩ := h
  refine ⟨by omega, fun hk6 => ?_, fun hk17 => ?_⟩
  · unfold segBytes segWords
    rw [hk6, if_neg (by decide)]
    have e1 : (20480 + s.flags) / 256 = 80 := by omega
    have e2 : (20480 + s.flags) % 256 ≤ 31 := by omega
    exact ⟨e1, e2, rfl, rfl⟩
  · have e : (8 + (xs.length : Int)) / 256 * 256 + (8 + (xs.length : Int)) % 256 = ((segBytes s c xs).length : Int) := by
      rw [hl, hk17, show segSize 17 = 8 from rfl]; omega
    rw [← e]
    unfold segBytes segWords at2
    rw [hk17]
    rfl
theorem segBytes_dec {s : Sg} {c : Int} {xs : List Int} (h : SegOk s xs.length) : decSeg s.kind (segBytes s c xs) = s := by
  unfold SegOk Word at h
  obtain ⟨k, f, t, q, a, fl, w⟩ := s
  dsimp only at h ⊢
  obtain ⟨rfl | rfl, hf, ht, hq, ha, hfl, hw, hz, hn⟩ := h
  · show (⟨6, f / 256 * 256 + f % 256, t / 256 * 256 + t % 256, (q / 65536 / 256 * 256 + q / 65536 % 256) * 65536 + (q % 65536 / 256 * 256 + q % 65536 % 256), (a / 65536 / 256 * 256 + a / 65536 % 256) * 65536 + (a % 65536 / 256 * 256 + a % 65536 % 256), (20480 + fl) % 256 % 32, w / 256 * 256 + w % 256⟩ : Sg) = _
    have e1 : f / 256 * 256 + f % 256 = f := by omega
    have e2 : t / 256 * 256 + t % 256 = t := by omega
    have e3 : (q / 65536 / 256 * 256 + q / 65536 % 256) * 65536 + (q % 65536 / 256 * 256 + q % 65536 % 256) = q := by omega
    have e4 : (a / 65536 / 256 * 256 + a / 65536 % 256) * 65536 + (a % 65536 / 256 * 256 + a % 65536 % 256) = a := by omega
    have e5 : (20480 + fl) % 256 % 32 = fl := by omega
    have e6 : w / 256 * 256 + w % 256 = w := by omega
    rw [e1, e2, e3, e4, e5, e6]
  · show (⟨17, f / 256 * 256 + f % 256, t / 256 * 256 + t % 256, 0, 0, 0, 0⟩ : Sg) = _
    have e1 : f / 256 * 256 + f % 256 = f := by omega
    have e2 : t / 256 * 256 + t % 256 = t := by omega
    obtain ⟨rfl, rfl, rfl, rfl⟩ := hz rfl
    rw [e1, e2]
theorem segQ_enc {s : Sg} {over : Int} {xs : List Int} (h : SegOk s xs.length) (ho : Word over) : segQ s.kind (segBytes s (segCheck s over xs) xs) over = 0 := by
  have hk := h.1
  unfold segQ
  rw [if_neg (by rintro (h1 | h1); exact h1 hk; exact h1 ho), if_neg (fun hn => hn (segBytes_is h)), segBytes_at hk, segBytes_drop hk, segBytes_dec h, if_pos rfl]

theorem fold_over {over : Int} (h : Word over) {r : Int} (hr : 0 ≤ r) : fold (over + fold r) = fold (over + r) := by
  have e := fold_add (a := over) (b := r) h.1 hr
  rwa [fold_small h.1 h.2] at e
theorem fold_over' {over : Int} (h : Word over) {r : Int} (hr : 0 ≤ r) : fold (fold r + over) = fold (r + over) := by
  rw [Int.add_comm, fold_over h hr, Int.add_comm]
/-- All together is 65535. -/
theorem seg_all {s : Sg} {over : Int} {xs : List Int} (hk : SegOk s xs.length) (hx : IsB xs) (ho : Word over) : fold (fold (raw 0 (segBytes s (segCheck s over xs) xs)) + over) = 65535 := by
  have h0 := (raw_bd (segBytes_isB (c := 0) hk (by decide) hx) 0).1
  have hc := segCheck_bd s over xs
  rw [raw_seg]
  generalize hR : raw 0 (segBytes s 0 xs) = R at *
  have hS : segSum s over xs = 65535 - fold (over + R) := by
    unfold segSum
    rw [hR, fold_over ho h0]
  rw [fold_over' ho (by omega)]
  have h1 := ho.1
  unfold segCheck
  split
  case isTrue h =>
    have h2 : fold (over + R) = 65535 := by omega
    have h3 : over + R ≠ 0 := fun h => by rw [h] at h2; cases h2
    rw [← h2]
    refine fold_congr (k := 1) (by omega) h3 ?_
    omega
  case isFalse h =>
    rw [hS, show R + (65535 - fold (over + R)) + over = (over + R) + (65535 - fold (over + R)) by omega]
    exact fold_check (by omega)
/-- Of another one over it the check is another one. -/
theorem seg_other {s : Sg} {over other : Int} {xs : List Int} (hk : SegOk s xs.length) (hx : IsB xs) (h0 : 0 ≤ over ∧ over < 65535) (h1 : 0 ≤ other ∧ other < 65535) (hne : other ≠ over) : segCheck s over xs ≠ segCheck s other xs := by
  have hR := (raw_bd (segBytes_isB (c := 0) hk (by decide) hx) 0).1
  have key : ∀ o, 0 ≤ o → o < 65535 → ∃ k, segCheck s o xs = 65535 - (o + raw 0 (segBytes s 0 xs)) + 65535 * k := fun o o0 o1 => by
    obtain ⟨k, hk⟩ := fold_eq (o + raw 0 (segBytes s 0 xs))
    have hS : segSum s o xs = 65535 - fold (o + raw 0 (segBytes s 0 xs)) := by
      unfold segSum
      rw [fold_over ⟨o0, by omega⟩ hR]
    unfold segCheck
    split
    · exact ⟨-k + 1, by omega⟩
    · exact ⟨-k, by omega⟩
  obtain ⟨k1, e1⟩ := key over h0.1 h0.2
  obtain ⟨k2, e2⟩ := key other h1.1 h1.2
  intro h
  omega
/-- One byte is another one: it sums up to something else. -/
theorem flip_sum {xs : List Int} {over y : Int} {j : Nat} (hx : IsB xs) (ho : Word over) (hj : j < xs.length) (hy : 0 ≤ y ∧ y ≤ 255) (hne : y ≠ xs.getD j 0) (h : fold (fold (raw 0 xs) + over) = 65535) (h2 : fold (fold (raw 0 (xs.set j y)) + over) = 65535) : False := by
  have hb := hx.getD j
  have r0 := (raw_bd hx 0).1
  have r1 := (raw_bd (hx.set j hy.1 hy.2) 0).1
  have e := raw_set xs y 0 j hj
  rw [fold_over' ho r0] at h
  rw [fold_over' ho r1] at h2
  obtain ⟨k1, e1⟩ := fold_eq (raw 0 xs + over)
  obtain ⟨k2, e2⟩ := fold_eq (raw 0 (xs.set j y) + over)
  split at e <;> omega
theorem segQ_zero {k : Int} {xs : List Int} {over : Int} (hb : IsB xs) (h : segQ k xs over = 0) : (k = 6 ∨ k = 17) ∧ Word over ∧ IsSeg k xs ∧ segBytes (decSeg k xs) (segCheck (decSeg k xs) over (xs.drop (segSize k))) (xs.drop (segSize k)) = xs ∧ SegOk (decSeg k xs) (xs.drop (segSize k)).length := by
  unfold segQ at h
  split at h
  · cases h
  rename_i h0
  have hk : k = 6 ∨ k = 17 := Decidable.byContradiction fun hn => h0 (.inl hn)
  have ho : Word over := Decidable.byContradiction fun hn => h0 (.inr hn)
  split at h
  · cases h
  rename_i h1
  have hi : IsSeg k xs := Decidable.byContradiction h1
  split at h
  · rename_i h2
    refine ⟨hk, ho, hi, ?_, decSeg_ok hk hb ?_⟩
    · rw [← h2]; exact dec_enc hk hb hi
    · have := hi.1.2
      rw [List.length_drop]
      omega
  · cases h
theorem segQ_flip {k : Int} {xs : List Int} {over y : Int} {j : Nat} (hx : IsB xs) (ho : Word over) (hj : j < xs.length) (hy : 0 ≤ y ∧ y ≤ 255) (hne : y ≠ xs.getD j 0) (h : fold (fold (raw 0 xs) + over) = 65535) : segQ k (xs.set j y) over ≠ 0 := by
  intro hq
  have hb := hx.set j hy.1 hy.2
  obtain ⟨hk, _, hi, he, hok⟩ := segQ_zero hb hq
  have ha := seg_all hok (hb.drop _) ho
  rw [he] at ha
  exact flip_sum hx ho hj hy hne h ha
end Pl
end Go.Proofs.YtbjogkpepfgegaaDoor
namespace Go.Proofs.YtbjogkpepfgegaaDoor
open Go.RowKit
/-- A table of which nothing is bound. -/
structure Tab0 (w : World) (gT gP gB gF gN : Nat) (n : Nat) : Prop where
  ptr : Blk w gT 120 #[.pointer (some ⟨gP, 0, none⟩), .map (some gF), .map (some gN)]
  prt : Prt w gP gB (PS.zero n)
  flows : w.heap[gF]? = some (.map #[] 0)
  nears : w.heap[gN]? = some (.map #[] 0)
set_option maxRecDepth 100000 in
set_option maxHeartbeats 1000000 in
theorem bnew_ok (n : Nat) (w : World) (h0 : 1 ≤ n) (h1 : n ≤ 16) :
    Calls Tryd.prog 20 #[.int .i64 (n : Int)] w fun e w' => ∃ gT gP gB gF gN, e = .returned (.tuple #[.pointer (some ⟨gT, 0, none⟩), .nilIface]) ∧ Tab0 w' gT gP gB gF gN n ∧ Ext w w' ∧ w.heap.size ≤ gT ∧ w.heap.size ≤ gP ∧ w.heap.size ≤ gB ∧ w.heap.size ≤ gF ∧ w.heap.size ≤ gN := by
  have hmm := @run_makeMap Tryd.prog
  go_enter Tryd.func20, Tryd.ntmps20
  go_wp2_with fail
  refine (new_ok n w h0 h1).mono ?_
  rintro e W1 ⟨gP, gB, rfl, P1, E1, hgP, hgB⟩
  have hz1 := E1.size
  go_wp2_with fail
  go_returns
  have E2 := ((E1.alloc (.map #[] 0)).alloc (.map #[] 0)).alloc (.cells #[.pointer (some ⟨gP, 0, none⟩), .map (some W1.heap.size), .map (some (W1.heap.size + 1))] 120)
  refine ⟨W1.heap.size + 1 + 1, gP, gB, W1.heap.size, W1.heap.size + 1, rfl, ⟨?_, ((P1.alloc _).alloc _).alloc _, ?_, ?_⟩, E2, by omega, hgP, hgB, hz1, by omega⟩
  · exact Blk.at _ _ _ (by simp)
  · rw [heap_alloc_old _ _ (by simp; omega), heap_alloc_old _ _ (by simp)]
    exact heap_alloc_new _ _
  · rw [heap_alloc_old _ _ (by simp)]
    have := heap_alloc_new (W1.alloc (.map #[] 0)) (.map #[] 0)
    simpa using this
set_option maxRecDepth 100000 in
theorem bnew_no (n : Int) (w : World) (h : n < 1 ∨ 16 < n) : Calls Tryd.prog 20 #[.int .i64 n] w fun e w' => e = .returned (.tuple #[.pointer none, errv 1]) ∧ w' = w := by
  have HN := Lib.hid (new_no n w h)
  unfold errv at HN ⊢
  clear h
  go_enter Tryd.func20, Tryd.ntmps20
  go_wp2_with fail
  refine HN.out.mono ?_
  rintro e w' ⟨rfl, rfl⟩
  go_wp2_with fail
  go_returns
  exact ⟨rfl, rfl⟩
theorem next_none (w : World) (ty : TypeId) (g c : Nat) (h : w.heap[g]? = some (.map #[] c)) :
    (Instr.next (.pointer (some ⟨w.heap.size, 0, none⟩)) false ty).run Tryd.prog (w.alloc (.mapIter (some g) c #[] c)) = .ok (.tuple #[.bool false]) (w.alloc (.mapIter (some g) c #[] c)) := by
  rcases run_next_map (P := Tryd.prog) w ty g c c #[] #[] c h (fun x hx => by simp at hx) (Nat.le_refl _) with ⟨_, hr⟩ | ⟨e, he, _⟩
  · exact hr
  · simp [leftOf] at he
end Go.Proofs.YtbjogkpepfgegaaDoor
namespace Go.Proofs.YtbjogkpepfgegaaDoor
open Go.RowKit
section
variable {w w' : World} {r g since : Nat} {seen : List Nat} {S : List Nat}
theorem Kp.grown1 {a b : World} (h : Kp [r] a b) : a.grownBy b (some r) := ⟨h.os, h.tape, h.output, h.size, fun i hi hne => h.block i hi (by simp; exact fun e => hne (by rw [e]))⟩
/-- How many entries have come. -/
def itSeen (w : World) (r : Nat) : Nat := match w.heap[r]? with | some (.mapIter _ _ seen _) => seen.size | _ => 0
variable {κ : Type} {K : Keys κ} {l : List (Ent κ)} {clock : Nat}
theorem MapIs.range (h : MapIs K w g l clock) (mt e : TypeId) (hm : Tryd.prog.underlying mt = some (.map K.t e)) :
    (Instr.range mt (.map (some g))).run Tryd.prog w = .ok (.pointer (some ⟨w.heap.size, 0, none⟩)) (w.alloc (.mapIter (some g) clock #[] clock)) := run_range_map w mt K.t e g _ clock hm h.here
variable {ops : Array Oper} {rest : List Oper} {o : Oper} {a : Act} {Q : Exit → Act → World → Prop}
end
end Go.Proofs.YtbjogkpepfgegaaDoor
namespace Go.Proofs.YtbjogkpepfgegaaDoor
namespace Pl
theorem list16 {xs : List Int} (h : xs.length = 16) : ∃ x0 x1 x2 x3 x4 x5 x6 x7 x8 x9 x10 x11 x12 x13 x14 x15, xs = [x0, x1, x2, x3, x4, x5, x6, x7, x8, x9, x10, x11, x12, x13, x14, x15] := by
  match xs, h with
  | [x0, x1, x2, x3, x4, x5, x6, x7, x8, x9, x10, x11, x12, x13, x14, x15], _ => exact ⟨x0, x1, x2, x3, x4, x5, x6, x7, x8, x9, x10, x11, x12, x13, x14, x15, rfl⟩
theorem two_sixAt {xs : List Int} (h : xs.length = 16) (hb : IsB xs) : two (sixAt xs).l = xs := by
  obtain ⟨x0, x1, x2, x3, x4, x5, x6, x7, x8, x9, x10, x11, x12, x13, x14, x15, rfl⟩ := list16 h
  have b1 := hb x1 (by simp)
  have b3 := hb x3 (by simp)
  have b5 := hb x5 (by simp)
  have b7 := hb x7 (by simp)
  have b9 := hb x9 (by simp)
  have b11 := hb x11 (by simp)
  have b13 := hb x13 (by simp)
  have b15 := hb x15 (by simp)
  have cd : ∀ {a b : Int}, 0 ≤ b ∧ b ≤ 255 → (a * 256 + b) / 256 = a := fun h => by omega
  have cm : ∀ {a b : Int}, 0 ≤ b ∧ b ≤ 255 → (a * 256 + b) % 256 = b := fun h => by omega
  show [(x0 * 256 + x1) / 256, (x0 * 256 + x1) % 256, (x2 * 256 + x3) / 256, (x2 * 256 + x3) % 256, (x4 * 256 + x5) / 256, (x4 * 256 + x5) % 256, (x6 * 256 + x7) / 256, (x6 * 256 + x7) % 256, (x8 * 256 + x9) / 256, (x8 * 256 + x9) % 256, (x10 * 256 + x11) / 256, (x10 * 256 + x11) % 256, (x12 * 256 + x13) / 256, (x12 * 256 + x13) % 256, (x14 * 256 + x15) / 256, (x14 * 256 + x15) % 256] = _
  rw [cd b1, cm b1, cd b3, cm b3, cd b5, cm b5, cd b7, cm b7, cd b9, cm b9, cd b11, cm b11, cd b13, cm b13, cd b15, cm b15]
theorem okS_sixAt {l : List Int} (hl : IsB l) : okS (sixAt l) = true := by
  unfold okS
  refine words_of fun x hx => ?_
  simp only [Six.l, sixAt, List.mem_cons, List.not_mem_nil, or_false] at hx
  have b := fun i => hl.getD i
  have g : ∀ i j, 0 ≤ l.getD i 0 * 256 + l.getD j 0 ∧ l.getD i 0 * 256 + l.getD j 0 ≤ 65535 := fun i j => by have := b i; have := b j; omega
  rcases hx with rfl | rfl | rfl | rfl | rfl | rfl | rfl | rfl <;> exact g _ _
theorem put_off {f : List Int} {j : Nat} : ∀ (pre : List (Fin 4 × Fin 16)) (b : List Int), (∀ p ∈ pre, p.2.val ≠ j) → (put b f pre).getD j 0 = b.getD j 0 := by
  intro pre
  induction pre with
  | nil => intro b _; rfl
  | cons p r ih =>
    intro b h
    have h1 := ih (b.set p.2.val (f.getD p.1.val 0)) fun q hq => h q (List.mem_cons_of_mem _ hq)
    have h2 : p.2.val ≠ j := h p (List.mem_cons_self ..)
    rw [show put b f (p :: r) = put (b.set p.2.val (f.getD p.1.val 0)) f r from rfl, h1]
    simp only [List.getD_eq_getElem?_getD]
    rw [List.getElem?_set_ne h2]
theorem spots_mem {m : Nat} (hm : m ≤ 12) {p : Fin 4 × Fin 16} (h : p ∈ spots m) : ∃ k, k ≤ 3 ∧ p.2.val = spot m k := by
  unfold spots at h
  simp only [List.mem_cons, List.not_mem_nil, or_false] at h
  rcases h with rfl | rfl | rfl | rfl
  · exact ⟨0, by omega, sp_snd hm (by omega)⟩
  · exact ⟨1, by omega, sp_snd hm (by omega)⟩
  · exact ⟨2, by omega, sp_snd hm (by omega)⟩
  · exact ⟨3, by omega, sp_snd hm (by omega)⟩
theorem spot_lo (m k : Nat) : m ≤ spot m k := by unfold spot; split <;> omega
theorem spot_8 (m k : Nat) : spot m k ≠ 8 := by unfold spot; split <;> omega
theorem spot_up (m : Nat) : spot m 0 < spot m 1 ∧ spot m 1 < spot m 2 ∧ spot m 2 < spot m 3 := by unfold spot; refine ⟨?_, ?_, ?_⟩ <;> (split <;> split <;> omega)
theorem put_low {b f : List Int} {m j : Nat} (hm : m ≤ 12) (h : j < m ∨ j = 8 ∨ spot m 3 < j) : (put b f (spots m)).getD j 0 = b.getD j 0 := by
  refine put_off _ _ fun p hp he => ?_
  obtain ⟨k, hk, hs⟩ := spots_mem hm hp
  have h1 := spot_lo m k
  have h2 := spot_8 m k
  have h3 := spot_up m
  have h4 : k = 0 ∨ k = 1 ∨ k = 2 ∨ k = 3 := by omega
  rcases h4 with rfl | rfl | rfl | rfl <;> omega
theorem put_val {b : List Int} (hb : b.length = 16) {m : Nat} (hm : m ≤ 12) (f : Int) : val (put b (four f) (spots m)) (spots m) = f := by
  have h3 := spot_up m
  have hl := spot_le hm (show 3 ≤ 3 by omega)
  have e0 := sp_snd hm (show 0 ≤ 3 by omega)
  have e1 := sp_snd hm (show 1 ≤ 3 by omega)
  have e2 := sp_snd hm (show 2 ≤ 3 by omega)
  have e3 := sp_snd hm (show 3 ≤ 3 by omega)
  have hp : put b (four f) (spots m) = (((b.set (spot m 0) (f / 16777216)).set (spot m 1) (f / 65536 % 256)).set (spot m 2) (f / 256 % 256)).set (spot m 3) (f % 256) := by
    show ((((b.set (sp m 0).2.val _).set (sp m 1).2.val _).set (sp m 2).2.val _).set (sp m 3).2.val _) = _
    rw [e0, e1, e2, e3]
    rfl
  have hv : ∀ c : List Int, val c (spots m) = (((0 * 256 + c.getD (spot m 0) 0) * 256 + c.getD (spot m 1) 0) * 256 + c.getD (spot m 2) 0) * 256 + c.getD (spot m 3) 0 := fun c => by
    show (((0 * 256 + c.getD (sp m 0).2.val 0) * 256 + c.getD (sp m 1).2.val 0) * 256 + c.getD (sp m 2).2.val 0) * 256 + c.getD (sp m 3).2.val 0 = _
    rw [e0, e1, e2, e3]
  rw [hv, hp]
  generalize spot m 0 = a0 at *
  generalize spot m 1 = a1 at *
  generalize spot m 2 = a2 at *
  generalize spot m 3 = a3 at *
  have g3 : ((((b.set a0 (f / 16777216)).set a1 (f / 65536 % 256)).set a2 (f / 256 % 256)).set a3 (f % 256)).getD a3 0 = f % 256 := by
    simp only [List.getD_eq_getElem?_getD]; rw [List.getElem?_set_self (by first | omega | (simp; omega))]; rfl
  have g2 : ((((b.set a0 (f / 16777216)).set a1 (f / 65536 % 256)).set a2 (f / 256 % 256)).set a3 (f % 256)).getD a2 0 = f / 256 % 256 := by
    simp only [List.getD_eq_getElem?_getD]; rw [List.getElem?_set_ne (by omega), List.getElem?_set_self (by first | omega | (simp; omega))]; rfl
  have g1 : ((((b.set a0 (f / 16777216)).set a1 (f / 65536 % 256)).set a2 (f / 256 % 256)).set a3 (f % 256)).getD a1 0 = f / 65536 % 256 := by
    simp only [List.getD_eq_getElem?_getD]; rw [List.getElem?_set_ne (by omega), List.getElem?_set_ne (by omega), List.getElem?_set_self (by first | omega | (simp; omega))]; rfl
  have g0 : ((((b.set a0 (f / 16777216)).set a1 (f / 65536 % 256)).set a2 (f / 256 % 256)).set a3 (f % 256)).getD a0 0 = f / 16777216 := by
    simp only [List.getD_eq_getElem?_getD]; rw [List.getElem?_set_ne (by omega), List.getElem?_set_ne (by omega), List.getElem?_set_ne (by omega), List.getElem?_set_self (by first | omega | (simp; omega))]; rfl
  rw [g0, g1, g2, g3]
  omega
theorem two_at : ∀ (l : List Int) (q : Nat), q < l.length → (two l).getD (2 * q) 0 = l.getD q 0 / 256 ∧ (two l).getD (2 * q + 1) 0 = l.getD q 0 % 256 := by
  intro l
  induction l with
  | nil => intro q h; cases h
  | cons x r ih =>
    intro q h
    cases q with
    | zero => exact ⟨rfl, rfl⟩
    | succ q =>
      have h1 := ih q (by simpa using h)
      have e1 : 2 * (q + 1) = (2 * q) + 1 + 1 := by omega
      have e2 : 2 * (q + 1) + 1 = (2 * q + 1) + 1 + 1 := by omega
      have et : two (x :: r) = x / 256 :: x % 256 :: two r := rfl
      rw [e2, e1, et, List.getD_cons_succ, List.getD_cons_succ, List.getD_cons_succ, List.getD_cons_succ, List.getD_cons_succ]
      exact h1
/-- A bit of an address is one of its bytes'. -/
theorem bit_byte {s : Six} (h : okS s = true) {i : Nat} (hi : i < 128) : bitAt s i = ((two s.l).getD (i / 8) 0).toNat.testBit (7 - i % 8) := by
  unfold bitAt
  have hw := Six.Ok.at (s := s) h (i / 16)
  have ht := two_at s.l (i / 16) (by show i / 16 < 8; omega)
  generalize s.l.getD (i / 16) 0 = x at *
  obtain ⟨a, rfl⟩ := Int.eq_ofNat_of_zero_le hw.1
  rw [Int.toNat_natCast]
  by_cases hr : i % 16 < 8
  · have e : i / 8 = 2 * (i / 16) := by omega
    rw [e, ht.1, show ((a : Int) / 256).toNat = a / 2 ^ 8 from by omega, Nat.testBit_div_two_pow]
    congr 1
    omega
  · have e : i / 8 = 2 * (i / 16) + 1 := by omega
    rw [e, ht.2, show ((a : Int) % 256).toNat = a % 2 ^ 8 from by omega, Nat.testBit_mod_two_pow]
    have : 15 - i % 16 = 7 - i % 8 := by omega
    rw [this]
    simp
    omega
theorem into_facts {p : Six} {n f : Int} (h : intoErr p n f = 0) : ∃ m : Nat, 4 ≤ m ∧ m ≤ 12 ∧ n = 8 * (m : Int) ∧ (n / 8).toNat = m ∧ okS p = true ∧ longB n = true ∧ clean (two p.l) n ∧ 0 ≤ f ∧ f < 4294967296 ∧
    okS (into p n f) = true ∧ two (into p n f).l = put (two p.l) (four f) (spots m) := by
  have hp : pfxErr p n = 0 := by
    unfold intoErr at h
    by_cases hp : pfxErr p n = 0
    · exact hp
    · rw [if_neg hp] at h; exact absurd h hp
  have hf : 0 ≤ f ∧ f < 4294967296 := by
    unfold intoErr at h
    rw [if_pos hp] at h
    by_cases hf : 0 ≤ f ∧ f < 4294967296
    · exact hf
    · rw [if_neg hf] at h; exact absurd h (by decide)
  have hi : into p n f = sixAt (put (two p.l) (four f) (spots (n / 8).toNat)) := by unfold into; rw [if_pos h]
  obtain ⟨hs, hl, hc⟩ := pfx_zero hp
  obtain ⟨m, h4, h12, hn, hm⟩ := longB_nat hl
  rw [hm] at hi
  have hB : IsB (put (two p.l) (four f) (spots m)) := put_isB (Six.isB hs) (four_isB hf.1 hf.2) _
  have hL : (put (two p.l) (four f) (spots m)).length = 16 := by rw [put_length, two_length]; rfl
  exact ⟨m, h4, h12, hn, hm, hs, hl, hc, hf.1, hf.2, by rw [hi]; exact okS_sixAt hB, by rw [hi]; exact two_sixAt hL hB⟩
/-- WHAT GOES IN COMES OUT. -/
theorem out_into {p : Six} {n f : Int} (h : intoErr p n f = 0) : outErr (into p n f) n = 0 ∧ outVal (into p n f) n = f := by
  obtain ⟨m, h4, h12, hn, hm, hs, hl, hc, hf0, hf1, ho, ht⟩ := into_facts h
  have hlen : (two p.l).length = 16 := by rw [two_length]; rfl
  have hE : outErr (into p n f) n = 0 := by
    unfold outErr
    rw [if_pos ho, if_pos hl, ht, hm, if_pos]
    refine ⟨?_, fun i h1 h2 => ?_⟩
    · rw [put_low h12 (.inr (.inl rfl))]; exact hc 8 (by omega) (.inl rfl)
    · rw [put_low h12 (.inr (.inr h1))]
      have := spot_lo m 3
      exact hc i h2 (.inr (by omega))
  refine ⟨hE, ?_⟩
  unfold outVal
  rw [if_pos hE, ht, hm]
  exact put_val hlen h12 f
/-- IT BEGINS WITH THE PREFIX. -/
theorem in_into {p : Six} {n f : Int} (h : intoErr p n f = 0) : inErr (into p n f) p n = 0 ∧ inVal (into p n f) p n = true := by
  obtain ⟨m, h4, h12, hn, hm, hs, hl, hc, hf0, hf1, ho, ht⟩ := into_facts h
  have hE : inErr (into p n f) p n = 0 := by unfold inErr; rw [if_pos ⟨ho, hs, by omega, by omega⟩]
  refine ⟨hE, ?_⟩
  have hb : inB (into p n f) p n.toNat = true := by
    refine inB_iff.2 fun i hi => ?_
    have hi' : i < 8 * m := by omega
    rw [bit_byte ho (by omega), bit_byte hs (by omega), ht, put_low h12 (.inl (by omega))]
  unfold inVal
  rw [hE, hb]
  rfl
/-- TWO ARE IN ONE ADDRESS ONLY IF THEY ARE ONE. -/
theorem into_one {p : Six} {n f g : Int} (h : intoErr p n f = 0) (k : intoErr p n g = 0) : sixEq (into p n f) (into p n g) = (f == g) := by
  by_cases e : f = g
  · subst e; rw [sixEq_self]; simp
  · have hne : ¬ into p n f = into p n g := fun he => e (by
      have h1 := (out_into h).2
      have h2 := (out_into k).2
      rw [← h1, he, h2])
    have h1 : sixEq (into p n f) (into p n g) = false := by
      cases hh : sixEq (into p n f) (into p n g)
      · rfl
      · exact absurd (sixEq_iff.1 hh) hne
    rw [h1]
    simp [e]
theorem into_fact : intoErr ⟨100, 65435, 0, 0, 0, 0, 0, 0⟩ 96 167772161 = 0 ∧ into ⟨100, 65435, 0, 0, 0, 0, 0, 0⟩ 96 167772161 = ⟨100, 65435, 0, 0, 0, 0, 2560, 1⟩ := by
  have h : intoErr ⟨100, 65435, 0, 0, 0, 0, 0, 0⟩ 96 167772161 = 0 := by decide +kernel
  refine ⟨h, ?_⟩
  unfold into
  rw [if_pos h]
  rfl
end Pl
end Go.Proofs.YtbjogkpepfgegaaDoor
