/- The contract of bind.Check: is a flow one? Conditions: as each theorem states them. -/
import Derived.Test.YtefdhlmljocnkaaDoorSix
namespace Go.Proofs.YtefdhlmljocnkaaDoor
open Go.RowKit

/-- Who talks to whom. -/
structure Flow where
  kind : Int
  client : Six
  port : Int
  dst : Six
  door : Int
def Flow.cells (f : Flow) : Array Value := #[.int .i64 f.kind, .int .i64 f.client.x0, .int .i64 f.client.x1, .int .i64 f.client.x2, .int .i64 f.client.x3, .int .i64 f.client.x4, .int .i64 f.client.x5, .int .i64 f.client.x6, .int .i64 f.client.x7, .int .i64 f.port, .int .i64 f.dst.x0, .int .i64 f.dst.x1, .int .i64 f.dst.x2, .int .i64 f.dst.x3, .int .i64 f.dst.x4, .int .i64 f.dst.x5, .int .i64 f.dst.x6, .int .i64 f.dst.x7, .int .i64 f.door]
abbrev Flow.v (f : Flow) : Value := .agg f.cells
def Flow.Ok (f : Flow) : Prop := (f.kind = 6 ∨ f.kind = 17) ∧ f.client.Ok ∧ f.dst.Ok ∧ (0 ≤ f.port ∧ f.port ≤ 65535) ∧ (0 ≤ f.door ∧ f.door ≤ 65535)

theorem Tryd.sizeFlow : (Tryd.prog.info? 47).map (·.size) = some 19 := by kernel_rfl
section
variable {w : World} {g : Nat} {t : TypeId} {f : Flow}
theorem Blk.flow (h : Blk w g t f.cells) : (Instr.loadAt 47 (.pointer (some ⟨g, 0, none⟩))).run Tryd.prog w = .ok (.agg f.cells) w := by
  have := run_loadAt_mid (P := Tryd.prog) w g 0 47 f.cells.toList _ (fun j v hv => by
    rw [Array.getElem?_toList] at hv
    rw [h.cells, Nat.zero_add]; exact hv) Tryd.underlying47 rfl Tryd.sizeFlow
  rw [Array.toArray_toList] at this
  exact this
theorem Blk.fclient (h : Blk w g t f.cells) : (Instr.loadAt 23 (.pointer (some ⟨g, 1, none⟩))).run Tryd.prog w = .ok (.agg f.client.cells) w :=
  h.six 1 f.client fun j hj => by
    have h : j = 0 ∨ j = 1 ∨ j = 2 ∨ j = 3 ∨ j = 4 ∨ j = 5 ∨ j = 6 ∨ j = 7 := by omega
    rcases h with rfl | rfl | rfl | rfl | rfl | rfl | rfl | rfl <;> rfl
theorem Blk.fdst (h : Blk w g t f.cells) : (Instr.loadAt 23 (.pointer (some ⟨g, 10, none⟩))).run Tryd.prog w = .ok (.agg f.dst.cells) w :=
  h.six 10 f.dst fun j hj => by
    have h : j = 0 ∨ j = 1 ∨ j = 2 ∨ j = 3 ∨ j = 4 ∨ j = 5 ∨ j = 6 ∨ j = 7 := by omega
    rcases h with rfl | rfl | rfl | rfl | rfl | rfl | rfl | rfl <;> rfl
theorem Blk.fnums (h : Blk w g t f.cells) : w.cell? ⟨g, 0, none⟩ = some (.int .i64 f.kind) ∧ w.cell? ⟨g, 9, none⟩ = some (.int .i64 f.port) ∧ w.cell? ⟨g, 18, none⟩ = some (.int .i64 f.door) := ⟨h.cells 0, h.cells 9, h.cells 18⟩
theorem Blk.ints_client (h : Blk w g t f.cells) : Ints .i64 w (some ⟨g, 1, none⟩) 8 f.client.l :=
  h.ints rfl fun i hi => by
    have h : i = 0 ∨ i = 1 ∨ i = 2 ∨ i = 3 ∨ i = 4 ∨ i = 5 ∨ i = 6 ∨ i = 7 := by omega
    rcases h with rfl | rfl | rfl | rfl | rfl | rfl | rfl | rfl <;> rfl
theorem Blk.ints_dst (h : Blk w g t f.cells) : Ints .i64 w (some ⟨g, 10, none⟩) 8 f.dst.l :=
  h.ints rfl fun i hi => by
    have h : i = 0 ∨ i = 1 ∨ i = 2 ∨ i = 3 ∨ i = 4 ∨ i = 5 ∨ i = 6 ∨ i = 7 := by omega
    rcases h with rfl | rfl | rfl | rfl | rfl | rfl | rfl | rfl <;> rfl
end

theorem check6_ok (s : Six) (w : World) (h : s.Ok) : Calls Tryd.prog 42 #[s.v] w fun e w' => e = .returned .nilIface ∧ Ext w w' :=
  (check6_any s w).mono fun _ _ ⟨he, hx⟩ => ⟨by rw [he, wordsErr_yes h], hx⟩
theorem Six.bad {s : Six} (h : ¬ s.Ok) : words s.l = false := by
  unfold Six.Ok at h
  simpa using h
theorem check6_bad (s : Six) (w : World) (h : ¬ s.Ok) : Calls Tryd.prog 42 #[s.v] w fun e w' => e = .returned (errv 1) ∧ Ext w w' :=
  (check6_any s w).mono fun _ _ ⟨he, hx⟩ => ⟨by rw [he, wordsErr_no (Six.bad h)], hx⟩

theorem word_yes (a : Int) (w : World) (h0 : 0 ≤ a) (h1 : a ≤ 65535) :
    Calls Tryd.prog 49 #[.int .i64 a] w fun e w' => e = .returned (.bool true) ∧ w = w' := by
  go_enter Tryd.func49, Tryd.ntmps49
  go_wp2
  go_ret
  exact ⟨rfl, rfl⟩
theorem word_no (a : Int) (w : World) (h : ¬ (0 ≤ a ∧ a ≤ 65535)) :
    Calls Tryd.prog 49 #[.int .i64 a] w fun e w' => e = .returned (.bool false) ∧ w = w' := by
  by_cases h0 : 0 ≤ a
  · have h1 : ¬ a ≤ 65535 := fun h1 => h ⟨h0, h1⟩
    clear h
    go_enter Tryd.func49, Tryd.ntmps49
    go_wp2
    go_ret
    exact ⟨rfl, rfl⟩
  · clear h
    go_enter Tryd.func49, Tryd.ntmps49
    go_wp2
    go_ret
    exact ⟨rfl, rfl⟩

set_option maxHeartbeats 1600000 in
theorem bcheck_ok (f : Flow) (w : World) (h : f.Ok) :
    Calls Tryd.prog 16 #[f.v] w fun e w' => e = .returned .nilIface ∧ Ext w w' := by
  have K0 := Blk.new w 47 f.cells
  have l0c := K0.fclient
  have l0d := K0.fdst
  obtain ⟨n00, n09, n018⟩ := K0.fnums
  have E0 : Ext w (w.alloc (.cells f.cells 47)) := (Ext.refl w).alloc _
  obtain ⟨hk, hc, hd, ⟨p0, p1⟩, ⟨d0, d1⟩⟩ := h
  have HC := Lib.hid hc
  have HD := Lib.hid hd
  clear hc hd
  unfold Flow.v
  rcases hk with hk | hk
  case' inl => have e6 : (f.kind != 6) = false := by rw [hk]; rfl
  case' inr =>
    have e6 : (f.kind != 6) = true := by rw [hk]; rfl
    have e17 : (f.kind != 17) = false := by rw [hk]; rfl
  all_goals
    clear hk
    go_enter Tryd.func16, Tryd.ntmps16
    go_wp2_with (first
      | ((apply load_by rfl _ _ rfl _ rfl); (focus (with_reducible assumption)))
      | (go_at_call 42; (with_reducible refine (check6_ok f.client _ HC.out).mono ?_); rintro e w1 ⟨rfl, q1⟩; have k1 := K0.ext q1; have l1d := k1.fdst; obtain ⟨n10, n19, n118⟩ := k1.fnums)
      | (go_at_call 42; (with_reducible refine (check6_ok f.dst _ HD.out).mono ?_); rintro e w2 ⟨rfl, q2⟩; have k2 := k1.ext q2; obtain ⟨n20, n29, n218⟩ := k2.fnums)
      | (go_at_call 49; (with_reducible refine (word_yes _ _ (by assumption) (by assumption)).mono ?_); rintro e w' ⟨rfl, rfl⟩))
    go_ret
    exact ⟨rfl, (E0.trans q1).trans q2⟩

set_option maxHeartbeats 4000000 in
theorem bcheck_bad (f : Flow) (w : World) (h : ¬ f.Ok) :
    Calls Tryd.prog 16 #[f.v] w fun e w' => e = .returned (errv 1) ∧ Ext w w' := by
  have K0 := Blk.new w 47 f.cells
  have l0c := K0.fclient
  have l0d := K0.fdst
  obtain ⟨n00, n09, n018⟩ := K0.fnums
  have E0 : Ext w (w.alloc (.cells f.cells 47)) := (Ext.refl w).alloc _
  have H := Lib.hid h
  clear h
  unfold Flow.v
  by_cases hk : f.kind = 6 ∨ f.kind = 17
  case neg =>
    have e6 : (f.kind != 6) = true := by simp; omega
    have e17 : (f.kind != 17) = true := by simp; omega
    clear hk
    go_enter Tryd.func16, Tryd.ntmps16
    go_wp2
    go_ret
    exact ⟨rfl, E0⟩
  by_cases hc : f.client.Ok
  case neg =>
    have HC := Lib.hid hc
    clear hc
    rcases hk with hk | hk
    case' inl => have e6 : (f.kind != 6) = false := by rw [hk]; rfl
    case' inr =>
      have e6 : (f.kind != 6) = true := by rw [hk]; rfl
      have e17 : (f.kind != 17) = false := by rw [hk]; rfl
    all_goals
      clear hk
      go_enter Tryd.func16, Tryd.ntmps16
      go_wp2_with (first | ((apply load_by rfl _ _ rfl _ rfl); (focus (with_reducible assumption))) | (go_at_call 42; (with_reducible refine (check6_bad f.client _ HC.out).mono ?_); rintro e w1 ⟨rfl, q1⟩; unfold errv))
      go_ret
      exact ⟨rfl, E0.trans q1⟩
  have HC := Lib.hid hc
  clear hc
  by_cases hd : f.dst.Ok
  case neg =>
    have HD := Lib.hid hd
    clear hd
    rcases hk with hk | hk
    case' inl => have e6 : (f.kind != 6) = false := by rw [hk]; rfl
    case' inr =>
      have e6 : (f.kind != 6) = true := by rw [hk]; rfl
      have e17 : (f.kind != 17) = false := by rw [hk]; rfl
    all_goals
      clear hk
      go_enter Tryd.func16, Tryd.ntmps16
      go_wp2_with (first
        | ((apply load_by rfl _ _ rfl _ rfl); (focus (with_reducible assumption)))
        | (go_at_call 42; (with_reducible refine (check6_ok f.client _ HC.out).mono ?_); rintro e w1 ⟨rfl, q1⟩; have k1 := K0.ext q1; have l1d := k1.fdst; obtain ⟨n10, n19, n118⟩ := k1.fnums)
        | (go_at_call 42; (with_reducible refine (check6_bad f.dst _ HD.out).mono ?_); rintro e w2 ⟨rfl, q2⟩; unfold errv))
      go_ret
      exact ⟨rfl, (E0.trans q1).trans q2⟩
  have HD := Lib.hid hd
  clear hd
  by_cases hp : 0 ≤ f.port ∧ f.port ≤ 65535
  case neg =>
    have HP := Lib.hid hp
    clear hp
    rcases hk with hk | hk
    case' inl => have e6 : (f.kind != 6) = false := by rw [hk]; rfl
    case' inr =>
      have e6 : (f.kind != 6) = true := by rw [hk]; rfl
      have e17 : (f.kind != 17) = false := by rw [hk]; rfl
    all_goals
      clear hk
      go_enter Tryd.func16, Tryd.ntmps16
      go_wp2_with (first
        | ((apply load_by rfl _ _ rfl _ rfl); (focus (with_reducible assumption)))
        | (go_at_call 42; (with_reducible refine (check6_ok f.client _ HC.out).mono ?_); rintro e w1 ⟨rfl, q1⟩; have k1 := K0.ext q1; have l1d := k1.fdst; obtain ⟨n10, n19, n118⟩ := k1.fnums)
        | (go_at_call 42; (with_reducible refine (check6_ok f.dst _ HD.out).mono ?_); rintro e w2 ⟨rfl, q2⟩; have k2 := k1.ext q2; obtain ⟨n20, n29, n218⟩ := k2.fnums)
        | (go_at_call 49; (with_reducible refine (word_no f.port _ HP.out).mono ?_); rintro e w' ⟨rfl, rfl⟩))
      go_ret
      exact ⟨rfl, (E0.trans q1).trans q2⟩
  have hd : ¬ (0 ≤ f.door ∧ f.door ≤ 65535) := fun hd => H.out ⟨hk, HC.out, HD.out, hp, hd⟩
  have HE := Lib.hid hd
  clear hd
  obtain ⟨p0, p1⟩ := hp
  rcases hk with hk | hk
  case' inl => have e6 : (f.kind != 6) = false := by rw [hk]; rfl
  case' inr =>
    have e6 : (f.kind != 6) = true := by rw [hk]; rfl
    have e17 : (f.kind != 17) = false := by rw [hk]; rfl
  all_goals
    clear hk
    go_enter Tryd.func16, Tryd.ntmps16
    go_wp2_with (first
      | ((apply load_by rfl _ _ rfl _ rfl); (focus (with_reducible assumption)))
      | (go_at_call 42; (with_reducible refine (check6_ok f.client _ HC.out).mono ?_); rintro e w1 ⟨rfl, q1⟩; have k1 := K0.ext q1; have l1d := k1.fdst; obtain ⟨n10, n19, n118⟩ := k1.fnums)
      | (go_at_call 42; (with_reducible refine (check6_ok f.dst _ HD.out).mono ?_); rintro e w2 ⟨rfl, q2⟩; have k2 := k1.ext q2; obtain ⟨n20, n29, n218⟩ := k2.fnums)
      | (go_at_call 49; (with_reducible refine (word_yes f.port _ p0 p1).mono ?_); rintro e w' ⟨rfl, rfl⟩)
      | (go_at_call 49; (with_reducible refine (word_no f.door _ HE.out).mono ?_); rintro e w' ⟨rfl, rfl⟩))
    go_ret
    exact ⟨rfl, (E0.trans q1).trans q2⟩
end Go.Proofs.YtefdhlmljocnkaaDoor
