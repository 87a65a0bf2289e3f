/- A list of servers in memory, and the contract of pick.Check. Conditions: as each theorem states them. -/
import Derived.Test.YtefdhlmljocnkaaDoorFlow
import Derived.Test.YtefdhlmljocnkaaDoorPickPl
import Derived.Test.YtefdhlmljocnkaaDoorAddr
namespace Go.Proofs.YtefdhlmljocnkaaDoor
open Go.RowKit
namespace Pl
def back0 : Back := ⟨0, 0, 0, 0, false, false⟩
/-- May a server's numbers be? -/
def Back.Num (b : Back) : Prop := (0 ≤ b.id ∧ b.id ≤ 65535) ∧ (0 ≤ b.door ∧ b.door ≤ 65535) ∧ (0 ≤ b.addr ∧ b.addr < 4294967296) ∧ (0 ≤ b.weight ∧ b.weight ≤ 10)
end Pl
abbrev backv (b : Pl.Back) : Value := .agg #[.int .i64 b.id, .int .i64 b.addr, .int .i64 b.door, .int .i64 b.weight, .bool b.up, .bool b.drain]

/-- A slice's value shows these servers. -/
def Backs (w : World) (a : Option Addr) (n : Nat) (bs : List Pl.Back) : Prop :=
  bs.length = n ∧ (n = 0 ∨ ∃ b off, a = some ⟨b, off, none⟩ ∧ ∀ i, i < n →
    w.cell? ⟨b, off + i * 6, none⟩ = some (.int .i64 (bs.getD i Pl.back0).id) ∧ w.cell? ⟨b, off + i * 6 + 1, none⟩ = some (.int .i64 (bs.getD i Pl.back0).addr) ∧
    w.cell? ⟨b, off + i * 6 + 2, none⟩ = some (.int .i64 (bs.getD i Pl.back0).door) ∧ w.cell? ⟨b, off + i * 6 + 3, none⟩ = some (.int .i64 (bs.getD i Pl.back0).weight) ∧
    w.cell? ⟨b, off + i * 6 + 4, none⟩ = some (.bool (bs.getD i Pl.back0).up) ∧ w.cell? ⟨b, off + i * 6 + 5, none⟩ = some (.bool (bs.getD i Pl.back0).drain))

set_option maxHeartbeats 800000 in
theorem pcheck_full (a : Option Addr) (n c : Nat) (w : World) (h : 8 < n) :
    Calls Tryd.prog 45 #[.slice a n c] w fun e w' => e = .returned (.tuple #[.int .i64 0, errv 3]) ∧ Ext w w' := by
  go_enter Tryd.func45, Tryd.ntmps45
  go_wp2
  go_ret2
  exact ⟨rfl, Ext.refl _⟩

namespace Pl
/-- Nothing is wrong with the server at a place. -/
def Fine (bs : List Back) (j : Nat) : Prop := (bs.getD j back0).Num ∧ ∀ m, m < j → (bs.getD m back0).id ≠ (bs.getD j back0).id
end Pl
/-- What Check gives of servers that are not too many. -/
def PRes (bs : List Pl.Back) (e : Ending) : Prop := ∃ i : Nat, (∀ j, j < i → Pl.Fine bs j) ∧
  ((i = bs.length ∧ e = .returned (.tuple #[.int .i64 0, .nilIface])) ∨ (i < bs.length ∧ ¬ (bs.getD i Pl.back0).Num ∧ e = .returned (.tuple #[.int .i64 i, errv 1])) ∨
    (i < bs.length ∧ (bs.getD i Pl.back0).Num ∧ (∃ m, m < i ∧ (bs.getD m Pl.back0).id = (bs.getD i Pl.back0).id) ∧ e = .returned (.tuple #[.int .i64 i, errv 8])))

theorem Backs.at {w w' : World} {a : Option Addr} {n : Nat} {bs : List Pl.Back} (h : Backs w a n bs) (hE : Ext w w') (hn : 0 < n) : ∃ b off, a = some ⟨b, off, none⟩ ∧ b < w.heap.size ∧ ∀ i, i < n →
    w'.cell? ⟨b, off + i * 6, none⟩ = some (.int .i64 (bs.getD i Pl.back0).id) ∧ w'.cell? ⟨b, off + i * 6 + 1, none⟩ = some (.int .i64 (bs.getD i Pl.back0).addr) ∧
    w'.cell? ⟨b, off + i * 6 + 2, none⟩ = some (.int .i64 (bs.getD i Pl.back0).door) ∧ w'.cell? ⟨b, off + i * 6 + 3, none⟩ = some (.int .i64 (bs.getD i Pl.back0).weight) ∧
    w'.cell? ⟨b, off + i * 6 + 4, none⟩ = some (.bool (bs.getD i Pl.back0).up) ∧ w'.cell? ⟨b, off + i * 6 + 5, none⟩ = some (.bool (bs.getD i Pl.back0).drain) := by
  rcases h.2 with h0 | ⟨b, off, rfl, hc⟩
  · omega
  · have hb : b < w.heap.size := World.block_lt_of_cell? w _ (hc 0 hn).1
    refine ⟨b, off, rfl, hb, fun i hi => ?_⟩
    obtain ⟨h0, h1, h2, h3, h4, h5⟩ := hc i hi
    have q : ∀ o, w'.cell? ⟨b, o, none⟩ = w.cell? ⟨b, o, none⟩ := fun o => Below.cell hE (p := ⟨b, o, none⟩) hb
    exact ⟨(q _).trans h0, (q _).trans h1, (q _).trans h2, (q _).trans h3, (q _).trans h4, (q _).trans h5⟩
theorem Backs.ext {w w' : World} {a : Option Addr} {n : Nat} {bs : List Pl.Back} (h : Backs w a n bs) (hE : Ext w w') : Backs w' a n bs := by
  refine ⟨h.1, ?_⟩
  rcases Nat.eq_zero_or_pos n with h0 | h0
  · exact .inl h0
  · obtain ⟨b, off, rfl, _, hc⟩ := h.at hE h0
    exact .inr ⟨b, off, rfl, hc⟩

set_option maxHeartbeats 8000000 in
theorem pcheck_any (a : Option Addr) (n c : Nat) (bs : List Pl.Back) (w : World) (hb : Backs w a n bs) (h : n ≤ 8) (hnc : n ≤ c) :
    Calls Tryd.prog 45 #[.slice a n c] w fun e w' => PRes bs e ∧ Ext w w' := by
  have HB := Lib.hid hb
  have HL := Lib.hid hb.1
  clear hb
  go_enter Tryd.func45, Tryd.ntmps45
  go_wp2
  go_loopw [14] (fun i wr => ∃ k : Nat, k ≤ n ∧ i = .int .i64 k ∧ Ext w wr ∧ ∀ j, j < k → Pl.Fine bs j) (fun i _ => n - (intOf i).toNat)
  case atStart => exact ⟨0, Nat.zero_le _, rfl, Ext.refl _, fun j hj => absurd hj (Nat.not_lt_zero _)⟩
  case round =>
    obtain ⟨k, hk, rfl, hE, hF⟩ := hrel
    have HF := Lib.hid hF
    clear hF
    by_cases hlt : k < n
    case neg =>
      obtain rfl : n = k := by omega
      go_wp2
      go_ret2
      exact ⟨⟨_, HF.out, .inl ⟨HL.out.symm, rfl⟩⟩, hE⟩
    case pos =>
      have HE := Lib.hid hE
      obtain ⟨b, off, rfl, hbl, hc⟩ := HB.out.at hE (by omega)
      obtain ⟨c0, c1, c2, c3, c4, c5⟩ := hc k hlt
      have HC := Lib.hid hc
      have K1 := Blk.new wr 95 #[.int .i64 (bs.getD k Pl.back0).id, .int .i64 (bs.getD k Pl.back0).addr, .int .i64 (bs.getD k Pl.back0).door, .int .i64 (bs.getD k Pl.back0).weight, .bool (bs.getD k Pl.back0).up, .bool (bs.getD k Pl.back0).drain]
      have E1 := hE.alloc (.cells #[.int .i64 (bs.getD k Pl.back0).id, .int .i64 (bs.getD k Pl.back0).addr, .int .i64 (bs.getD k Pl.back0).door, .int .i64 (bs.getD k Pl.back0).weight, .bool (bs.getD k Pl.back0).up, .bool (bs.getD k Pl.back0).drain] 95)
      generalize hx : bs.getD k Pl.back0 = x at *
      have HX := Lib.hid hx
      clear hc hx hE
      by_cases hnum : x.Num
      case neg =>
        have hres : PRes bs (.returned (.tuple #[.int .i64 k, errv 1])) := ⟨k, HF.out, .inr (.inl ⟨by rw [HL.out]; exact hlt, by rw [HX.out]; exact hnum, rfl⟩)⟩
        by_cases h1 : 0 ≤ x.id
        case neg => go_wp2; go_ret2; exact ⟨hres, E1⟩
        by_cases h2 : x.id ≤ 65535
        case neg => go_wp2; go_ret2; exact ⟨hres, E1⟩
        by_cases h3 : 0 ≤ x.door
        case neg => go_wp2; go_ret2; exact ⟨hres, E1⟩
        by_cases h4 : x.door ≤ 65535
        case neg => go_wp2; go_ret2; exact ⟨hres, E1⟩
        by_cases h5 : 0 ≤ x.addr ∧ x.addr < 4294967296
        case neg =>
          have H5 := Lib.hid h5
          clear h5
          go_wp2_with (go_at_call 44; refine (is_no _ _ H5.out).mono ?_; rintro e w' ⟨rfl, rfl⟩)
          go_ret2
          exact ⟨hres, E1⟩
        have H5 := Lib.hid h5
        clear h5
        by_cases h6 : 0 ≤ x.weight
        case neg =>
          go_wp2_with (go_at_call 44; refine (is_yes _ _ H5.out.1 H5.out.2).mono ?_; rintro e w' ⟨rfl, rfl⟩)
          go_ret2
          exact ⟨hres, E1⟩
        have h7 : ¬ x.weight ≤ 10 := fun h7 => hnum ⟨⟨h1, h2⟩, ⟨h3, h4⟩, H5.out, ⟨h6, h7⟩⟩
        go_wp2_with (go_at_call 44; refine (is_yes _ _ H5.out.1 H5.out.2).mono ?_; rintro e w' ⟨rfl, rfl⟩)
        go_ret2
        exact ⟨hres, E1⟩
      case pos =>
        have HN := Lib.hid hnum
        obtain ⟨⟨i0, i1⟩, ⟨d0, d1⟩, ⟨a0, a1⟩, ⟨w0, w1⟩⟩ := hnum
        have hck : (k : Int) ≤ (c : Int) := by omega
        go_wp2_with (go_at_call 44; refine (is_yes _ _ a0 a1).mono ?_; rintro e w' ⟨rfl, rfl⟩)
        clear c0 c1 c2 c3 c4 c5
        have EW := (Ext.refl wr).alloc (.cells #[.int .i64 x.id, .int .i64 x.addr, .int .i64 x.door, .int .i64 x.weight, .bool x.up, .bool x.drain] 95)
        obtain ⟨W1, hW1⟩ : ∃ W1, wr.alloc (.cells #[.int .i64 x.id, .int .i64 x.addr, .int .i64 x.door, .int .i64 x.weight, .bool x.up, .bool x.drain] 95) = W1 := ⟨_, rfl⟩
        rw [hW1] at K1 E1 EW ⊢
        clear hW1
        obtain ⟨wo, rfl⟩ : ∃ wo : World, wo = wr := ⟨_, rfl⟩
        go_loopw [59] (fun i wi => ∃ m : Nat, m ≤ k ∧ i = .int .i64 m ∧ Ext W1 wi ∧ ∀ j, j < m → (bs.getD j Pl.back0).id ≠ x.id) (fun i _ => k - (intOf i).toNat)
        case atStart => exact ⟨0, Nat.zero_le _, rfl, Ext.refl _, fun j hj => absurd hj (Nat.not_lt_zero _)⟩
        case round =>
          obtain ⟨m, hm, rfl, hEi, hFi⟩ := hrel
          have HFi := Lib.hid hFi
          clear hFi
          have ki := K1.ext hEi
          have ci := ki.cells
          have fi := ki.free
          have li := ki.lt
          by_cases hmk : m < k
          case neg =>
            obtain rfl : k = m := by omega
            have hEE := E1.trans hEi
            have HEE := Lib.hid hEE
            clear hEE hEi
            go_wp2
            go_roundw
            case rel => exact ⟨k + 1, by omega, by go_num, HEE.out, fun j hj => by
              rcases Nat.lt_succ_iff_lt_or_eq.1 hj with h | rfl
              · exact HF.out j h
              · exact ⟨by rw [HX.out]; exact HN.out, fun m hm => by rw [HX.out]; exact HFi.out m hm⟩⟩
            case measure => simp [intOf]; omega
          case pos =>
            obtain ⟨c0, c1, c2, c3, c4, c5⟩ := HC.out m (by omega)
            have q : ∀ o, wr.cell? ⟨b, o, none⟩ = wo.cell? ⟨b, o, none⟩ := fun o => Below.cell (EW.trans hEi) (p := ⟨b, o, none⟩) (by have := HE.out.size; show b < _; omega)
            replace c0 := (q _).trans c0
            replace c1 := (q _).trans c1
            replace c2 := (q _).trans c2
            replace c3 := (q _).trans c3
            replace c4 := (q _).trans c4
            replace c5 := (q _).trans c5
            have Ei := hEi.alloc (.cells #[.int .i64 (bs.getD m Pl.back0).id, .int .i64 (bs.getD m Pl.back0).addr, .int .i64 (bs.getD m Pl.back0).door, .int .i64 (bs.getD m Pl.back0).weight, .bool (bs.getD m Pl.back0).up, .bool (bs.getD m Pl.back0).drain] 95)
            have HH := Lib.hid hEi
            clear q hEi
            generalize hy : bs.getD m Pl.back0 = y at *
            have HY := Lib.hid hy
            clear hy
            by_cases hid : y.id = x.id
            · have hb : (y.id == x.id) = true := by simpa using hid
              have HI := Lib.hid hid
              clear hid
              go_wp2
              go_ret2
              exact ⟨⟨k, HF.out, .inr (.inr ⟨by rw [HL.out]; exact hlt, by rw [HX.out]; exact HN.out, ⟨m, hmk, by rw [HX.out, HY.out]; exact HI.out⟩, rfl⟩)⟩, E1.trans Ei⟩
            · have hb : (y.id == x.id) = false := by simpa using hid
              have HI := Lib.hid hid
              clear hid
              go_wp2
              go_roundw
              case rel => exact ⟨m + 1, by omega, by go_num, Ei, fun j hj => by
                rcases Nat.lt_succ_iff_lt_or_eq.1 hj with h | rfl
                · exact HFi.out j h
                · rw [HY.out]; exact HI.out⟩
              case measure => simp [intOf]; omega
end Go.Proofs.YtefdhlmljocnkaaDoor
