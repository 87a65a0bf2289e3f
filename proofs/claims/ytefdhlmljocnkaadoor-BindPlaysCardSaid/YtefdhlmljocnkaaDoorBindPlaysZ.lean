/- The law BindPlays: any flows that are bound, used and forgotten. Conditions: the row's own: errors.errorType holds its handle (tied). -/
import Derived.Test.YtefdhlmljocnkaaDoorBindPlaysY
import Derived.Test.YtefdhlmljocnkaaDoorFrame
import Derived.Test.YtefdhlmljocnkaaDoorBacks
import Derived.Deep.Slices
import Derived.Test.YtefdhlmljocnkaaDoorRow
import Derived.Test.YtefdhlmljocnkaaDoorStore
import Derived.Test.YtefdhlmljocnkaaDoorFlow
import Derived.Test.YtefdhlmljocnkaaDoorProg
import Derived.WalkKit
import Derived.LaidEql
import Derived.Stop.Asserts
import Derived.RowKitTokens
import Derived.Handy
import Derived.Test.YtefdhlmljocnkaaDoorBase
import Derived.Test.YtefdhlmljocnkaaDoorSum
import Derived.Test.YtefdhlmljocnkaaDoorErv
import Derived.ChangeSame
import Derived.ChangeVars
import Derived.JoinedOf
import Derived.LaidLaws
import Derived.LaidHandle
import Derived.Stop.Joined
import Derived.Test.YtefdhlmljocnkaaDoorTie
import Derived.Test.YtefdhlmljocnkaaDoorCards
import Derived.SevenTiedAt
import Derived.Deep.DeepCutAuto
import Derived.Deep.CutBlock
/- The document's table of binds: Make. Conditions: as each theorem states them. -/
namespace Go.Proofs.YtefdhlmljocnkaaDoor
open Go.RowKit
theorem insB_done {x : Bd} : ∀ {l : List Bd}, (∃ y ∈ l, x.near < y.near) → ∀ m, insB x (l ++ m) = insB x l ++ m
  | [], h, _ => by obtain ⟨y, hy, _⟩ := h; cases hy
  | z :: r, h, m => by
    show insB x (z :: (r ++ m)) = insB x (z :: r) ++ m
    unfold insB
    split
    · rfl
    · rename_i hz
      rw [insB_done (l := r) ?_ m]
      · rfl
      · obtain ⟨y, hy, hlt⟩ := h
        rcases List.mem_cons.1 hy with rfl | hy
        · exact absurd hlt hz
        · exact ⟨y, hy, hlt⟩
theorem insB_not {x : Bd} : ∀ {l : List Bd}, (∀ y ∈ l, ¬ x.near < y.near) → ∀ m, insB x (l ++ m) = l ++ insB x m
  | [], _, _ => rfl
  | z :: r, h, m => by
    show insB x (z :: (r ++ m)) = z :: (r ++ insB x m)
    rw [← insB_not (l := r) (fun y hy => h y (List.mem_cons_of_mem _ hy)) m]
    show (if x.near < z.near then _ else z :: insB x (r ++ m)) = _
    rw [if_neg (h z (List.mem_cons_self ..))]
/-- Is it put in among the first k? And what stands there then. -/
def insD (x : Bd) (B : List Bd) (k : Nat) : Bool := (B.take k).any fun y => decide (x.near < y.near)
def insK (x : Bd) (B : List Bd) (k : Nat) : List Bd := if insD x B k = true then insB x (B.take k) else B.take k
theorem take_step {B : List Bd} {k : Nat} {y : Bd} (hy : B[k]? = some y) : B.take (k + 1) = B.take k ++ [y] := by
  rw [List.take_add_one, hy]; rfl
theorem insD_step {x : Bd} {B : List Bd} {k : Nat} {y : Bd} (hy : B[k]? = some y) : insD x B (k + 1) = (insD x B k || decide (x.near < y.near)) := by
  unfold insD
  rw [take_step hy, List.any_append]
  simp
theorem insK_put {x : Bd} {B : List Bd} {k : Nat} {y : Bd} (hy : B[k]? = some y) (hd : insD x B k = false) (hl : x.near < y.near) : insK x B (k + 1) = (insK x B k ++ [x]) ++ [y] := by
  have h1 : insD x B (k + 1) = true := by rw [insD_step hy, decide_eq_true hl, Bool.or_true]
  unfold insK
  rw [if_pos h1, if_neg (by rw [hd]; decide), take_step hy, insB_not (fun z hz hlt => ?_)]
  · show B.take k ++ (if x.near < y.near then [x, y] else _) = _
    rw [if_pos hl]
    simp
  · unfold insD at hd
    rw [List.any_eq_false] at hd
    exact hd z hz (decide_eq_true hlt)
theorem insK_on {x : Bd} {B : List Bd} {k : Nat} {y : Bd} (hy : B[k]? = some y) (hd : insD x B k = true ∨ ¬ x.near < y.near) : insK x B (k + 1) = insK x B k ++ [y] ∧ insD x B (k + 1) = insD x B k := by
  have h1 : insD x B (k + 1) = insD x B k := by
    rw [insD_step hy]
    rcases hd with h | h
    · rw [h]; rfl
    · rw [decide_eq_false h, Bool.or_false]
  refine ⟨?_, h1⟩
  unfold insK
  rw [h1, take_step hy]
  cases hk : insD x B k
  · rfl
  · rw [if_pos rfl, if_pos rfl, insB_done]
    unfold insD at hk
    rw [List.any_eq_true] at hk
    obtain ⟨z, hz, hlt⟩ := hk
    exact ⟨z, hz, by simpa using hlt⟩
theorem insK_end {x : Bd} {B : List Bd} : (insD x B B.length = true → insK x B B.length = insB x B) ∧ (insD x B B.length = false → insK x B B.length ++ [x] = insB x B) := by
  have ht : B.take B.length = B := List.take_length
  constructor
  · intro h
    unfold insK
    rw [if_pos h, ht]
  · intro h
    unfold insK
    rw [if_neg (by rw [h]; decide), ht]
    unfold insD at h
    rw [ht, List.any_eq_false] at h
    have := insB_not (x := x) (l := B) (fun y hy hlt => h y hy (decide_eq_true hlt)) []
    rw [List.append_nil] at this
    rw [this]
    rfl
theorem insK_len (x : Bd) (B : List Bd) (k : Nat) : (insK x B k).length ≤ B.length + 1 := by
  unfold insK
  split
  · rw [(insB_perm x _).length_eq, List.length_cons, List.length_take]; omega
  · rw [List.length_take]; omega
theorem w32_okA (n : Int) : w32 n = okA n := by
  unfold w32 okA
  by_cases h : n ≤ 4294967295
  · rw [decide_eq_true h, decide_eq_true (show n < 4294967296 by omega)]
  · rw [decide_eq_false h, decide_eq_false (show ¬ n < 4294967296 by omega)]
theorem only_row1 (w : World) (k : Nat) (cs : Array Value) : w.grownBy (w.setRow k cs) (some k) :=
  ⟨rfl, rfl, rfl, by simp, fun i _ hne => setRow_other w k i cs fun e => hne (by rw [e])⟩
/-- What Make leaves in the document's table. -/
def RMade (g : RG) (b : Nat) (s : PS) (B : List Bd) (f : Flow) (back far now : Int) (w : World) (e : Ending) (w' : World) : Prop :=
  e = .returned (.tuple #[(if bMakeQ f back far now s B = 0 then newBd f back far now s else zeroBd).v, .int .i64 (bMakeQ f back far now s B)]) ∧ (∃ v', RT w' g b v' (if bMakeQ f back far now s B = 0 then s.take f.client else s) (if bMakeQ f back far now s B = 0 then insB (newBd f back far now s) B else B)) ∧ Kp [g.gR, g.gW, g.gT] w w'
theorem rmade_end {g : RG} {b : Nat} {v v9 : Value} {s : PS} {B : List Bd} {f : Flow} {back far now : Int} {w V2 W9 : World} {X : Bd} (h : RT w g b v s B) (k2 : Kp [g.gR, g.gW, g.gT] w V2) (hR : g.gR < V2.heap.size) (p2 : ∃ r', Rrt V2 g.gM g.gW g.gT r' ∧ Like (s.take f.client) r')
    (hq : bMakeQ f back far now s B = 0) (hX : X = newBd f back far now s) (hb : b ≤ w.heap.size) (E9 : Ext V2 W9) (p : Blk (W9.setCell ⟨g.gR, 1, none⟩ v9) g.gR 68 #[.pointer (some ⟨g.gM, 0, none⟩), v9]) {b9 : Nat} (o9 : KB.Own 53 W9 b9 v9 (insB X B)) (hb9 : V2.heap.size ≤ b9) (hV2 : w.heap.size + 1 < V2.heap.size) :
    RMade g b s B f back far now w (.returned (.tuple #[.agg X.cells, .int .i64 0])) ((W9.setCell ⟨g.gR, 1, none⟩ v9).setRow (w.heap.size + 1) X.cells) := by
  unfold RMade
  rw [hq, if_pos rfl, if_pos rfl, if_pos rfl, ← hX]
  obtain ⟨r', hr', hl'⟩ := p2
  have hlo := h.lo
  have hap : g.gR ≠ g.gM ∧ g.gR ≠ g.gW ∧ g.gR ≠ g.gT := by have := h.apart; simp [RG.all] at this; omega
  have hM := hlo g.gM (by simp [RG.all])
  have hW := hlo g.gW (by simp [RG.all])
  have hT := hlo g.gT (by simp [RG.all])
  have hRb := hlo g.gR (by simp [RG.all])
  have hE9 := E9.size
  have kR : Kp [g.gR, w.heap.size + 1] W9 ((W9.setCell ⟨g.gR, 1, none⟩ v9).setRow (w.heap.size + 1) X.cells) :=
    (Kp.ofGrown (only_set (World.grownBy.refl _ _) _ _) (by simp)).trans (Kp.ofGrown (only_row1 _ (w.heap.size + 1) _) (by simp))
  refine ⟨rfl, ⟨v9, p.farRow (by omega) _, ⟨r', ⟨(hr'.ptr.ext E9).kp kR (by simp; omega), (hr'.who.ext E9).kp kR (by simp; omega), (hr'.tak.ext E9).kp kR (by simp; omega), hr'.ne, hr'.n0, hr'.n1⟩, hl'⟩, (o9.kp kR (fun y hy hm => by have := (o9.lt y hy).1; simp at hm; omega)).mono (by omega), h.apart, hlo, by have := kR.size; omega⟩, ?_⟩
  have k3 : Kp [g.gR, g.gW, g.gT] w (W9.setCell ⟨g.gR, 1, none⟩ v9) := (k2.andExt E9).trans (Kp.ofGrown (only_set (World.grownBy.refl _ _) _ _) (by simp))
  exact k3.row (Nat.le_succ _) _
set_option maxRecDepth 100000 in
set_option maxHeartbeats 4000000 in
theorem rmake_any (g : RG) (b : Nat) (v : Value) (s : PS) (B : List Bd) (f : Flow) (back far now : Int) (w : World) (h : RT w g b v s B) (hB : B.length ≤ 128) :
    Calls Tryd.prog 17 #[.pointer (some ⟨g.gR, 0, none⟩), f.v, .int .i64 back, .int .i64 far, .int .i64 now] w (RMade g b s B f back far now w) := by
  have HH := Lib.hid h
  have hRl := h.ptr.lt
  have hbase := h.base
  have K0 := (Blk.new w 47 f.cells).alloc (.cells #[.int .i64 0, .int .i64 0, .int .i64 0, .int .i64 0, .int .i64 0, .int .i64 0, .int .i64 0, .int .i64 0, .int .i64 0, .int .i64 0, .int .i64 0, .int .i64 0, .int .i64 0, .int .i64 0, .int .i64 0, .int .i64 0, .int .i64 0, .int .i64 0, .int .i64 0, .int .i64 0, .int .i64 0, .int .i64 0, .int .i64 0] 53)
  have K1 := Blk.at (n := w.heap.size + 1) (w.alloc (.cells f.cells 47)) 53 #[.int .i64 0, .int .i64 0, .int .i64 0, .int .i64 0, .int .i64 0, .int .i64 0, .int .i64 0, .int .i64 0, .int .i64 0, .int .i64 0, .int .i64 0, .int .i64 0, .int .i64 0, .int .i64 0, .int .i64 0, .int .i64 0, .int .i64 0, .int .i64 0, .int .i64 0, .int .i64 0, .int .i64 0, .int .i64 0, .int .i64 0] (by simp)
  have E1 := ((Ext.refl w).alloc (.cells f.cells 47)).alloc (.cells #[.int .i64 0, .int .i64 0, .int .i64 0, .int .i64 0, .int .i64 0, .int .i64 0, .int .i64 0, .int .i64 0, .int .i64 0, .int .i64 0, .int .i64 0, .int .i64 0, .int .i64 0, .int .i64 0, .int .i64 0, .int .i64 0, .int .i64 0, .int .i64 0, .int .i64 0, .int .i64 0, .int .i64 0, .int .i64 0, .int .i64 0] 53)
  have ld := loaFl K0
  have HFF := Lib.hid (fun W => rflow_any f W)
  have HA := Lib.hid (fun W => isFour_any back W)
  rw [w32_okA] at HA
  have HW := Lib.hid (fun W => word_any far W)
  have HT := Lib.hid (fun W => rtick_any now W)
  have HX := Lib.hid (And.intro K0 (And.intro K1 E1))
  clear h K0 K1 E1
  go_enter Tryd.func17, Tryd.ntmps17
  go_wp2_with ((apply load_by rfl _ _ rfl _ rfl); (focus (with_reducible assumption)))
  refine (HFF.out _).mono ?_
  rintro e W1 ⟨rfl, q1⟩
  have K0 := (HX.out).1.ext q1
  have K1 := (HX.out).2.1.ext q1
  have E1 := (HX.out).2.2.trans q1
  clear ld q1 HX
  cases ho : okF f
  case false =>
    have HQ := Lib.hid (show bMakeQ f back far now s B = 1 by unfold bMakeQ; rw [if_neg (by rw [ho]; decide)])
    rw [show flowE f = 1 from if_neg (by rw [ho]; decide)]
    have st : (Instr.storeAt 53 (.pointer (some ⟨w.heap.size + 1, 0, none⟩)) (.agg #[.int .i64 0, .int .i64 0, .int .i64 0, .int .i64 0, .int .i64 0, .int .i64 0, .int .i64 0, .int .i64 0, .int .i64 0, .int .i64 0, .int .i64 0, .int .i64 0, .int .i64 0, .int .i64 0, .int .i64 0, .int .i64 0, .int .i64 0, .int .i64 0, .int .i64 0, .int .i64 0, .int .i64 0, .int .i64 0, .int .i64 0])).run Tryd.prog _ = .ok () _ := stoBd K1 zeroBd
    have KF := K1.row zeroBd.cells
    have HE := Lib.hid (E1.row (k := w.heap.size + 1) (Nat.le_succ _) zeroBd.cells)
    clear K0 K1 E1
    go_wp2_with ((apply store_by rfl _ _ _ rfl _ rfl); (focus (with_reducible assumption)); (focus rfl))
    refine bodyPost_ret (results_cell2 Tryd.results17 _ _ (w.heap.size + 1) 53 zeroBd.cells _ rfl KF Tryd.underlying53 rfl Tryd.sizeBd) rfl ?_
    unfold RMade
    rw [HQ.out, if_neg (by decide), if_neg (by decide), if_neg (by decide)]
    exact ⟨rfl, ⟨_, HH.out.ext HE.out⟩, HE.out.kp _⟩
  case true =>
    rw [show flowE f = 0 from if_pos ho]
    go_wp2_with fail
    refine (HA.out _).mono ?_
    rintro e W2 ⟨rfl, rfl⟩
    go_wp2_with fail
    refine (HW.out _).mono ?_
    rintro e W2 ⟨rfl, rfl⟩
    go_wp2_with fail
    refine (HT.out _).mono ?_
    rintro e W2 ⟨rfl, rfl⟩
    cases hok : (okA back && (w16 far && okT now))
    case false =>
      have HQ := Lib.hid (show bMakeQ f back far now s B = 1 by unfold bMakeQ; rw [if_pos ho, if_neg (by rw [hok]; decide)])
      have hor : okA back = false ∨ (okA back = true ∧ w16 far = false) ∨ (okA back = true ∧ w16 far = true ∧ okT now = false) := by
        cases h1 : okA back
        · exact .inl rfl
        · cases h2 : w16 far
          · exact .inr (.inl ⟨rfl, rfl⟩)
          · rw [h1, h2] at hok; exact .inr (.inr ⟨rfl, rfl, by simpa using hok⟩)
      clear hok
      rcases hor with h1 | ⟨h1, h2⟩ | ⟨h1, h2, h3⟩
      case' inl => rw [h1]
      case' inr.inl => rw [h1, h2]
      case' inr.inr => rw [h1, h2, h3]
      all_goals
        have st : (Instr.storeAt 53 (.pointer (some ⟨w.heap.size + 1, 0, none⟩)) (.agg #[.int .i64 0, .int .i64 0, .int .i64 0, .int .i64 0, .int .i64 0, .int .i64 0, .int .i64 0, .int .i64 0, .int .i64 0, .int .i64 0, .int .i64 0, .int .i64 0, .int .i64 0, .int .i64 0, .int .i64 0, .int .i64 0, .int .i64 0, .int .i64 0, .int .i64 0, .int .i64 0, .int .i64 0, .int .i64 0, .int .i64 0])).run Tryd.prog _ = .ok () _ := stoBd K1 zeroBd
        have KF := K1.row zeroBd.cells
        have HE := Lib.hid (E1.row (k := w.heap.size + 1) (Nat.le_succ _) zeroBd.cells)
        clear K0 K1 E1
        go_wp2_with ((apply store_by rfl _ _ _ rfl _ rfl); (focus (with_reducible assumption)); (focus rfl))
        refine bodyPost_ret (results_cell2 Tryd.results17 _ _ (w.heap.size + 1) 53 zeroBd.cells _ rfl KF Tryd.underlying53 rfl Tryd.sizeBd) rfl ?_
        unfold RMade
        rw [HQ.out, if_neg (by decide), if_neg (by decide), if_neg (by decide)]
        exact ⟨rfl, ⟨_, HH.out.ext HE.out⟩, HE.out.kp _⟩
    case true =>
      obtain ⟨h1, h2, h3⟩ : okA back = true ∧ w16 far = true ∧ okT now = true := by
        cases h1 : okA back <;> cases h2 : w16 far <;> cases h3 : okT now <;> simp_all
      rw [h1, h2, h3]
      have ld := loaFl K0
      go_wp2_with ((apply load_by rfl _ _ rfl _ rfl); (focus (with_reducible assumption)))
      refine (rfind_place g b v s B f _ (HH.out.ext E1) (by omega)).mono ?_
      rintro e W3 ⟨rfl, q3⟩
      replace K0 := K0.ext q3
      replace K1 := K1.ext q3
      replace E1 := E1.trans q3
      clear ld q3
      rcases place_find (fun b => flowEq b.flow f) B with ⟨hf, hp⟩ | ⟨k, x, hx, hf, hp⟩
      case inr =>
        rw [hp]
        have HQ := Lib.hid (show bMakeQ f back far now s B = 8 by unfold bMakeQ; rw [if_pos ho, if_pos hok]; unfold findF; rw [hf]; rfl)
        have dk : decide ((0 : Int) ≤ (k : Int)) = true := decide_eq_true (by omega)
        clear hp hf hx
        have st : (Instr.storeAt 53 (.pointer (some ⟨w.heap.size + 1, 0, none⟩)) (.agg #[.int .i64 0, .int .i64 0, .int .i64 0, .int .i64 0, .int .i64 0, .int .i64 0, .int .i64 0, .int .i64 0, .int .i64 0, .int .i64 0, .int .i64 0, .int .i64 0, .int .i64 0, .int .i64 0, .int .i64 0, .int .i64 0, .int .i64 0, .int .i64 0, .int .i64 0, .int .i64 0, .int .i64 0, .int .i64 0, .int .i64 0])).run Tryd.prog _ = .ok () _ := stoBd K1 zeroBd
        have KF := K1.row zeroBd.cells
        have HE := Lib.hid (E1.row (k := w.heap.size + 1) (Nat.le_succ _) zeroBd.cells)
        clear K0 K1 E1
        go_wp2_with ((apply store_by rfl _ _ _ rfl _ rfl); (focus (with_reducible assumption)); (focus rfl))
        refine bodyPost_ret (results_cell2 Tryd.results17 _ _ (w.heap.size + 1) 53 zeroBd.cells _ rfl KF Tryd.underlying53 rfl Tryd.sizeBd) rfl ?_
        unfold RMade
        rw [HQ.out, if_neg (by decide), if_neg (by decide), if_neg (by decide)]
        exact ⟨rfl, ⟨_, HH.out.ext HE.out⟩, HE.out.kp _⟩
      case inl =>
        rw [hp]
        have HQ1 := Lib.hid (show bMakeQ f back far now s B = s.takeQ f.client by unfold bMakeQ; rw [if_pos ho, if_pos hok]; unfold findF; rw [hf]; rfl)
        clear hf hp hok
        go_wp2_with fail
        obtain ⟨r, hr, hlk⟩ := (HH.out.ext E1).prt
        have HTK := Lib.hid (fun w' (E : Ext W3 w') => rtake_any g.gM g.gW g.gT s r f.client w' (hr.ext E) hlk)
        have PR := (HH.out.ext E1).ptr
        have cM : W3.cell? ⟨g.gR, 0, none⟩ = some (.pointer (some ⟨g.gM, 0, none⟩)) := PR.cells 0
        have HAP := Lib.hid HH.out.apart
        have hRW : g.gR ≠ g.gW ∧ g.gR ≠ g.gT := by have := HH.out.apart; simp [RG.all] at this; omega
        have hWl := HH.out.lo g.gW (by simp [RG.all])
        have hTl := HH.out.lo g.gT (by simp [RG.all])
        have hMl := HH.out.lo g.gM (by simp [RG.all])
        clear hr hlk
        have S0 : (fun w' => w'.cell? ⟨g.gR, 0, none⟩ = some (.pointer (some ⟨g.gM, 0, none⟩)) ∧ Blk w' w.heap.size 47 f.cells) W3.drew := ⟨cM, Blk.drew K0⟩
        refine wp_region_held_drew (S := (fun w' => w'.cell? ⟨g.gR, 0, none⟩ = some (.pointer (some ⟨g.gM, 0, none⟩)) ∧ Blk w' w.heap.size 47 f.cells)) (by kernel_rfl) S0 (fun hS0 => ?_)
        clear S0 cM
        have E4 : Ext W3 W3.drew := (Ext.refl W3).drew
        have K4 := Blk.drew K1
        have K5 := Blk.drew K0
        have PR4 := Blk.drew PR
        clear K0 K1 PR
        have EE := E1.drew
        clear E1
        generalize W3.drew = V at *
        (refine wpAnyH_take (i := 0) (v := ?_) rfl (by kernel_rfl) (by kernel_rfl) (by kernel_rfl) (fun _ _ _ h => h) (Or.inl ⟨by rfl, ?_⟩) (by assumption) ?_; rotate_left; focus (intro w hSw; (try dsimp only at hSw); go_simp; try with_reducible rfl); try simp only [Act.put, List.getElem_toArray, List.getElem_cons_succ, List.getElem_cons_zero, List.setIfInBounds_toArray, List.set_cons_zero, List.set_cons_succ])
        (refine wpAnyH_take (i := 1) (v := ?_) rfl (by kernel_rfl) (by kernel_rfl) (by kernel_rfl) (fun _ _ _ h => h) (Or.inl ⟨by rfl, ?_⟩) (by assumption) ?_; rotate_left; focus (intro w hSw; (try dsimp only at hSw); go_simp; try with_reducible rfl); try simp only [Act.put, List.getElem_toArray, List.getElem_cons_succ, List.getElem_cons_zero, List.setIfInBounds_toArray, List.set_cons_zero, List.set_cons_succ])
        (refine wpAnyH_take (i := 2) (v := ?_) rfl (by kernel_rfl) (by kernel_rfl) (by kernel_rfl) (fun _ _ _ h => h) (Or.inl ⟨by rfl, ?_⟩) (by assumption) ?_; rotate_left; focus (intro w hSw; (try dsimp only at hSw); go_simp; try with_reducible rfl); try simp only [Act.put, List.getElem_toArray, List.getElem_cons_succ, List.getElem_cons_zero, List.setIfInBounds_toArray, List.set_cons_zero, List.set_cons_succ])
        (refine wpAnyH_take (i := 3) (v := ?_) rfl (by kernel_rfl) (by kernel_rfl) (by kernel_rfl) (fun _ _ _ h => h) (Or.inl ⟨by rfl, ?_⟩) (by assumption) ?_; rotate_left; focus (intro w hSw; (try dsimp only at hSw); go_simp; try with_reducible rfl); try simp only [Act.put, List.getElem_toArray, List.getElem_cons_succ, List.getElem_cons_zero, List.setIfInBounds_toArray, List.set_cons_zero, List.set_cons_succ])
        (refine wpAnyH_take (i := 4) (v := ?_) rfl (by kernel_rfl) (by kernel_rfl) (by kernel_rfl) (fun _ _ _ h => h) (Or.inl ⟨by rfl, ?_⟩) (by assumption) ?_; rotate_left; focus (intro w hSw; (try dsimp only at hSw); go_simp; try with_reducible rfl); try simp only [Act.put, List.getElem_toArray, List.getElem_cons_succ, List.getElem_cons_zero, List.setIfInBounds_toArray, List.set_cons_zero, List.set_cons_succ])
        refine wpAnyH_take (i := 5) rfl (by kernel_rfl) (by kernel_rfl) (by kernel_rfl) (fun _ _ _ h => h) (Or.inl ⟨by rfl, fun W hS => exec_load rfl rfl (Blk.fclient hS.2)⟩) (by assumption) ?_
        (try simp only [Act.put, List.getElem_toArray, List.getElem_cons_succ, List.getElem_cons_zero, List.setIfInBounds_toArray, List.set_cons_zero, List.set_cons_succ])
        (refine wpAnyH_ready (rs := [6]) (by kernel_rfl) (by simp) ?_; refine AllReadyH.cons rfl (fun K hK => ?_) AllReadyH.nil)
        go_simp
        go_at_call 50
        refine (HTK.out _ E4).mono ?_
        rintro e V2 ⟨rfl, p2, g2⟩
        have k2 : Kp [g.gR, g.gW, g.gT] w V2 := (EE.kp _).trans (Kp.ofTwo g2 (by simp) (by simp))
        have K6 := K4.two g2 (by omega) (by omega)
        have K7 := K5.two g2 (by omega) (by omega)
        have PR5 := PR4.two g2 hRW.1 hRW.2
        have OW5 := (HH.out.own.ext EE).kp (Kp.ofTwo (S := [g.gW, g.gT]) g2 (by simp) (by simp)) (fun y hy hm => by have := (HH.out.own.lt y hy).1; simp at hm; omega)
        have c5 : V2.cell? ⟨g.gR, 0, none⟩ = some (.pointer (some ⟨g.gM, 0, none⟩)) := PR5.cells 0
        refine hK.out _ _ ⟨c5, K7⟩ ?_
        clear hK K K4 K5 PR4 c5 HTK E4
        have hV2 : w.heap.size + 1 < V2.heap.size := K6.lt
        intro hS
        (try simp only [Act.put, List.getElem_toArray, List.getElem_cons_succ, List.getElem_cons_zero, List.setIfInBounds_toArray, List.set_cons_zero, List.set_cons_succ])
        (refine wpAnyH_take (i := 7) (v := ?_) rfl (by kernel_rfl) (by kernel_rfl) (by kernel_rfl) (fun _ _ _ h => h) (Or.inl ⟨by rfl, ?_⟩) (by assumption) ?_; rotate_left; focus (intro w hSw; (try dsimp only at hSw); go_simp; try with_reducible rfl); try simp only [Act.put, List.getElem_toArray, List.getElem_cons_succ, List.getElem_cons_zero, List.setIfInBounds_toArray, List.set_cons_zero, List.set_cons_succ])
        (refine wpAnyH_take (i := 8) (v := ?_) rfl (by kernel_rfl) (by kernel_rfl) (by kernel_rfl) (fun _ _ _ h => h) (Or.inl ⟨by rfl, ?_⟩) (by assumption) ?_; rotate_left; focus (intro w hSw; (try dsimp only at hSw); go_simp; try with_reducible rfl); try simp only [Act.put, List.getElem_toArray, List.getElem_cons_succ, List.getElem_cons_zero, List.setIfInBounds_toArray, List.set_cons_zero, List.set_cons_succ])
        (refine wpAnyH_take (i := 9) (v := ?_) rfl (by kernel_rfl) (by kernel_rfl) (by kernel_rfl) (fun _ _ _ h => h) (Or.inl ⟨by rfl, ?_⟩) (by assumption) ?_; rotate_left; focus (intro w hSw; (try dsimp only at hSw); go_simp; try with_reducible rfl); try simp only [Act.put, List.getElem_toArray, List.getElem_cons_succ, List.getElem_cons_zero, List.setIfInBounds_toArray, List.set_cons_zero, List.set_cons_succ])
        (refine wpAnyH_take (i := 10) (v := ?_) rfl (by kernel_rfl) (by kernel_rfl) (by kernel_rfl) (fun _ _ _ h => h) (Or.inl ⟨by rfl, ?_⟩) (by assumption) ?_; rotate_left; focus (intro w hSw; (try dsimp only at hSw); go_simp; try with_reducible rfl); try simp only [Act.put, List.getElem_toArray, List.getElem_cons_succ, List.getElem_cons_zero, List.setIfInBounds_toArray, List.set_cons_zero, List.set_cons_succ])
        (refine wpAnyH_take (i := 11) (v := ?_) rfl (by kernel_rfl) (by kernel_rfl) (by kernel_rfl) (fun _ _ _ h => h) (Or.inl ⟨by rfl, ?_⟩) (by assumption) ?_; rotate_left; focus (intro w hSw; (try dsimp only at hSw); go_simp; try with_reducible rfl); try simp only [Act.put, List.getElem_toArray, List.getElem_cons_succ, List.getElem_cons_zero, List.setIfInBounds_toArray, List.set_cons_zero, List.set_cons_succ])
        refine wpAnyH_done (by kernel_rfl) ?_ _
        clear hS hS0 g2 EE
        have HP2 := Lib.hid p2
        clear p2
        have HTS := Lib.hid (take_same (s := s) (who := f.client))
        by_cases hq0 : s.takeQ f.client = 0
        case neg =>
          have hne : ((s.takeQ f.client) != 0) = true := by simpa using hq0
          have HN := Lib.hid hq0
          have st : (Instr.storeAt 53 (.pointer (some ⟨w.heap.size + 1, 0, none⟩)) (.agg #[.int .i64 0, .int .i64 0, .int .i64 0, .int .i64 0, .int .i64 0, .int .i64 0, .int .i64 0, .int .i64 0, .int .i64 0, .int .i64 0, .int .i64 0, .int .i64 0, .int .i64 0, .int .i64 0, .int .i64 0, .int .i64 0, .int .i64 0, .int .i64 0, .int .i64 0, .int .i64 0, .int .i64 0, .int .i64 0, .int .i64 0])).run Tryd.prog _ = .ok () _ := stoBd K6 zeroBd
          have KF := K6.row zeroBd.cells
          have HF := Lib.hid (And.intro PR5 (And.intro OW5 k2))
          clear K6 K7 PR5 OW5 k2 hq0
          generalize s.takeQ f.client = Q at *
          generalize s.takeN f.client = N at *
          go_wp2_with ((apply store_by rfl _ _ _ rfl _ rfl); (focus (with_reducible assumption)); (focus rfl))
          refine bodyPost_ret (results_cell2 Tryd.results17 _ _ (w.heap.size + 1) 53 zeroBd.cells _ rfl KF Tryd.underlying53 rfl Tryd.sizeBd) rfl ?_
          obtain ⟨PR5, OW5, k2⟩ := HF.out
          obtain ⟨r', hr', hl'⟩ := HP2.out
          unfold RMade
          rw [HQ1.out, if_neg HN.out, if_neg HN.out, if_neg HN.out]
          have kR : Kp [w.heap.size + 1] V2 (V2.setRow (w.heap.size + 1) zeroBd.cells) := Kp.ofGrown (only_row1 V2 (w.heap.size + 1) _) (by simp)
          have hno : ∀ y, y < b → y ∉ [w.heap.size + 1] := fun y hy hm => by simp at hm; omega
          have hls := HH.out.lo
          rw [HTS.out HN.out] at hl'
          refine ⟨rfl, ⟨v, PR5.kp kR (hno _ (hls _ (by simp [RG.all]))), ⟨r', ⟨hr'.ptr.kp kR (hno _ hMl), hr'.who.kp kR (hno _ hWl), hr'.tak.kp kR (hno _ hTl), hr'.ne, hr'.n0, hr'.n1⟩, hl'⟩, OW5.kp kR (fun y hy hm => by have := (HH.out.own.lt y hy).2; simp at hm; omega), HH.out.apart, hls, by have := kR.size; omega⟩, k2.row (Nat.le_succ _) _⟩
        case pos =>
          rw [hq0]
          have HQ := Lib.hid (HQ1.out.trans hq0)
          have HNW := Lib.hid (show newBd f back far now s = ⟨f, s.takeN f.client, back, far, now⟩ from rfl)
          have HPA := Lib.hid HP2.out
          clear hq0 HTS HP2
          generalize s.takeN f.client = N at *
          have ld : (Instr.loadAt 47 (.pointer (some ⟨w.heap.size, 0, none⟩))).run Tryd.prog V2 = .ok (.agg #[.int .i64 f.kind, .int .i64 f.client.x0, .int .i64 f.client.x1, .int .i64 f.client.x2, .int .i64 f.client.x3, .int .i64 f.client.x4, .int .i64 f.client.x5, .int .i64 f.client.x6, .int .i64 f.client.x7, .int .i64 f.port, .int .i64 f.dst.x0, .int .i64 f.dst.x1, .int .i64 f.dst.x2, .int .i64 f.dst.x3, .int .i64 f.dst.x4, .int .i64 f.dst.x5, .int .i64 f.dst.x6, .int .i64 f.dst.x7, .int .i64 f.door]) _ := loaFl K7
          have K8 := (Blk.new V2 53 #[.int .i64 0, .int .i64 0, .int .i64 0, .int .i64 0, .int .i64 0, .int .i64 0, .int .i64 0, .int .i64 0, .int .i64 0, .int .i64 0, .int .i64 0, .int .i64 0, .int .i64 0, .int .i64 0, .int .i64 0, .int .i64 0, .int .i64 0, .int .i64 0, .int .i64 0, .int .i64 0, .int .i64 0, .int .i64 0, .int .i64 0])
          have st : (Instr.storeAt 53 (.pointer (some ⟨V2.heap.size, 0, none⟩)) (.agg #[.int .i64 f.kind, .int .i64 f.client.x0, .int .i64 f.client.x1, .int .i64 f.client.x2, .int .i64 f.client.x3, .int .i64 f.client.x4, .int .i64 f.client.x5, .int .i64 f.client.x6, .int .i64 f.client.x7, .int .i64 f.port, .int .i64 f.dst.x0, .int .i64 f.dst.x1, .int .i64 f.dst.x2, .int .i64 f.dst.x3, .int .i64 f.dst.x4, .int .i64 f.dst.x5, .int .i64 f.dst.x6, .int .i64 f.dst.x7, .int .i64 f.door, .int .i64 N, .int .i64 back, .int .i64 far, .int .i64 now])).run Tryd.prog _ = .ok () _ := stoBd K8 ⟨f, N, back, far, now⟩
          have K9 := K8.row (Bd.cells ⟨f, N, back, far, now⟩)
          have E3 : Ext V2 _ := ((Ext.refl V2).alloc (.cells #[.int .i64 0, .int .i64 0, .int .i64 0, .int .i64 0, .int .i64 0, .int .i64 0, .int .i64 0, .int .i64 0, .int .i64 0, .int .i64 0, .int .i64 0, .int .i64 0, .int .i64 0, .int .i64 0, .int .i64 0, .int .i64 0, .int .i64 0, .int .i64 0, .int .i64 0, .int .i64 0, .int .i64 0, .int .i64 0, .int .i64 0] 53)).row (k := V2.heap.size) (Nat.le_refl _) (Bd.cells ⟨f, N, back, far, now⟩)
          have c1 : V2.cell? ⟨g.gR, 1, none⟩ = some v := PR5.cells 1
          obtain ⟨a5, c5, hv5, hc5, hs5, _, _⟩ := OW5.open
          obtain ⟨n, hn⟩ : ∃ n, B.length = n := ⟨_, rfl⟩
          rw [hn] at hv5 hc5 hs5 hB
          have HV := Lib.hid (And.intro PR5 (And.intro OW5 (And.intro k2 (And.intro K6 hn))))
          have HS := Lib.hid hs5
          have hRV : g.gR < V2.heap.size := PR5.lt
          have CE := Lib.hid (fun W (E : Ext V2 W) => (show W.cell? ⟨g.gR, 1, none⟩ = some (.slice a5 n c5) from (Below.cell E (p := ⟨g.gR, 1, none⟩) hRV).trans (c1.trans (by rw [hv5]))))
          have c1 := CE.out _ E3
          have c1b := CE.out _ (Ext.refl V2)
          have HX3 := Lib.hid (And.intro K9 E3)
          clear K8 K9 E3 PR5 OW5 k2 K6 hs5 K7
          obtain ⟨X, hX⟩ : ∃ X : Bd, X = ⟨f, N, back, far, now⟩ := ⟨_, rfl⟩
          have HXX := Lib.hid hX
          go_wp2_with (first | ((apply load_by rfl _ _ rfl _ rfl); (focus (with_reducible assumption))) | ((apply store_by rfl _ _ _ rfl _ rfl); (focus (with_reducible assumption)); (focus rfl)))
          refine at_worldE (fun W => Ext V2 W ∧ Blk W V2.heap.size 53 X.cells) ⟨HX3.out.2, by rw [hX]; exact HX3.out.1⟩ ?_
          clear HX3 ld st c1 c1b hX
          rintro W4 ⟨E4, KX⟩
          have HE4 := Lib.hid E4
          have HKX := Lib.hid KX
          clear E4 KX
          go_loopw [18, 19, 20] (fun o d i wr => ∃ k : Nat, k ≤ n ∧ i = .int .i64 k ∧ d = .bool (insD X B k) ∧ KB.Own 53 wr W4.heap.size o (insK X B k) ∧ Ext W4 wr) (fun _ _ i _ => n - (intOf i).toNat)
          case atStart => exact ⟨0, Nat.zero_le _, rfl, rfl, Kin.Own.nil _ _, Ext.refl W4⟩
          case round =>
            obtain ⟨k, hk, rfl, rfl, ho5, E5⟩ := hrel
            have cS := CE.out _ (HE4.out.trans E5)
            have HO5 := Lib.hid ho5
            have HE5 := Lib.hid E5
            have hlen : (insK X B k).length ≤ n + 1 := by have := insK_len X B k; rw [HV.out.2.2.2.2] at this; exact this
            have lx : ∀ W, Ext W4 W → (Instr.loadAt 53 (.pointer (some ⟨V2.heap.size, 0, none⟩))).run Tryd.prog W = .ok (.agg #[.int .i64 X.flow.kind, .int .i64 X.flow.client.x0, .int .i64 X.flow.client.x1, .int .i64 X.flow.client.x2, .int .i64 X.flow.client.x3, .int .i64 X.flow.client.x4, .int .i64 X.flow.client.x5, .int .i64 X.flow.client.x6, .int .i64 X.flow.client.x7, .int .i64 X.flow.port, .int .i64 X.flow.dst.x0, .int .i64 X.flow.dst.x1, .int .i64 X.flow.dst.x2, .int .i64 X.flow.dst.x3, .int .i64 X.flow.dst.x4, .int .i64 X.flow.dst.x5, .int .i64 X.flow.dst.x6, .int .i64 X.flow.dst.x7, .int .i64 X.flow.door, .int .i64 X.near, .int .i64 X.back, .int .i64 X.far, .int .i64 X.last]) W := fun W E => loaBd (HKX.out.ext E)
            have HLX := Lib.hid lx
            clear lx
            by_cases hlt : k < n
            case neg =>
              obtain rfl : k = n := by omega
              have d1 : decide ((k : Int) < (k : Int)) = false := decide_eq_false (by omega)
              clear ho5 E5
              cases hd : insD X B k
              case true =>
                have ho6 : KB.Own 53 wr W4.heap.size u18 (insB X B) := by
                  have h1 := insK_end (x := X) (B := B)
                  rw [HV.out.2.2.2.2] at h1
                  rw [← h1.1 hd]
                  exact HO5.out
                clear hd
                obtain ⟨a9, n9, c9, rfl, _, _⟩ := ho6.read
                have K6 := HV.out.2.2.2.1.ext (HE4.out.trans HE5.out)
                have PR9 := HV.out.1.ext (HE4.out.trans HE5.out)
                have cS9 := CE.out _ (HE4.out.trans HE5.out)
                have fr : wr.frozen? ⟨g.gR, 1, none⟩ = false := PR9.free 1
                have K10 := K6.far (p := ⟨g.gR, 1, none⟩) (by show w.heap.size + 1 ≠ g.gR; omega) (.slice a9 n9 c9)
                have KX9 := (HKX.out.ext HE5.out).far (p := ⟨g.gR, 1, none⟩) (by show V2.heap.size ≠ g.gR; omega) (.slice a9 n9 c9)
                have ld : (Instr.loadAt 53 (.pointer (some ⟨V2.heap.size, 0, none⟩))).run Tryd.prog (wr.setCell ⟨g.gR, 1, none⟩ (.slice a9 n9 c9)) = .ok (.agg X.cells) _ := loaBd KX9
                have st := stoBd K10 X
                have KF := K10.row X.cells
                have PR10 : Blk (wr.setCell ⟨g.gR, 1, none⟩ (.slice a9 n9 c9)) g.gR 68 #[.pointer (some ⟨g.gM, 0, none⟩), (.slice a9 n9 c9)] := PR9.put 1 (.slice a9 n9 c9)
                have HF := Lib.hid (And.intro PR10 (And.intro ho6 HE5.out))
                clear K6 PR9 K10 KX9 PR10 ho6 
                go_wp2_with (first | ((apply load_by rfl _ _ rfl _ rfl); (focus (with_reducible assumption))) | ((apply store_by rfl _ _ _ rfl _ rfl); (focus (with_reducible assumption)); (focus rfl)))
                refine bodyPost_ret (results_cell2 Tryd.results17 _ _ (w.heap.size + 1) 53 X.cells _ rfl KF Tryd.underlying53 rfl Tryd.sizeBd) rfl ?_
                exact rmade_end HH.out HV.out.2.2.1 HV.out.1.lt HPA.out HQ.out (HXX.out.trans HNW.out.symm) (by omega) (HE4.out.trans HF.out.2.2) HF.out.1 HF.out.2.1 (by have := HE4.out.size; omega) hV2
              case false =>
                have ld := HLX.out wr HE5.out
                go_wp2_with (first | ((apply load_by rfl _ _ rfl _ rfl); (focus (with_reducible assumption))) | (at_builtin; refine Halt.out ?_))
                refine Halt.mk ?_
                refine appBL rfl _ _ rfl W4.heap.size u18 (insK X B k) rfl (HO5.out.ext ((Ext.refl wr).alloc _)) _ _ _ [X] rfl (Blk.binds1 (b := X) (Blk.new _ _ _)) (by omega) (by have := HE5.out.size; simp; omega) ?_
                intro v9 W9 o9 g9 b9 l9
                have E9 : Ext W4 W9 := Below.trans (HE5.out.alloc (.cells #[.int .i64 X.flow.kind, .int .i64 X.flow.client.x0, .int .i64 X.flow.client.x1, .int .i64 X.flow.client.x2, .int .i64 X.flow.client.x3, .int .i64 X.flow.client.x4, .int .i64 X.flow.client.x5, .int .i64 X.flow.client.x6, .int .i64 X.flow.client.x7, .int .i64 X.flow.port, .int .i64 X.flow.dst.x0, .int .i64 X.flow.dst.x1, .int .i64 X.flow.dst.x2, .int .i64 X.flow.dst.x3, .int .i64 X.flow.dst.x4, .int .i64 X.flow.dst.x5, .int .i64 X.flow.dst.x6, .int .i64 X.flow.dst.x7, .int .i64 X.flow.door, .int .i64 X.near, .int .i64 X.back, .int .i64 X.far, .int .i64 X.last] 53)) b9
                have h1 := insK_end (x := X) (B := B)
                rw [HV.out.2.2.2.2] at h1
                rw [h1.2 hd] at o9
                clear ld g9 b9 l9 h1 hd
                obtain ⟨a9, n9, c9, rfl, _, _⟩ := o9.read
                have K6 := HV.out.2.2.2.1.ext (HE4.out.trans E9)
                have PR9 := HV.out.1.ext (HE4.out.trans E9)
                have cS9 := CE.out _ (HE4.out.trans E9)
                have fr : W9.frozen? ⟨g.gR, 1, none⟩ = false := PR9.free 1
                have K10 := K6.far (p := ⟨g.gR, 1, none⟩) (by show w.heap.size + 1 ≠ g.gR; omega) (.slice a9 n9 c9)
                have KX9 := (HKX.out.ext E9).far (p := ⟨g.gR, 1, none⟩) (by show V2.heap.size ≠ g.gR; omega) (.slice a9 n9 c9)
                have ld : (Instr.loadAt 53 (.pointer (some ⟨V2.heap.size, 0, none⟩))).run Tryd.prog (W9.setCell ⟨g.gR, 1, none⟩ (.slice a9 n9 c9)) = .ok (.agg X.cells) _ := loaBd KX9
                have st := stoBd K10 X
                have KF := K10.row X.cells
                have PR10 : Blk (W9.setCell ⟨g.gR, 1, none⟩ (.slice a9 n9 c9)) g.gR 68 #[.pointer (some ⟨g.gM, 0, none⟩), (.slice a9 n9 c9)] := PR9.put 1 (.slice a9 n9 c9)
                have HF := Lib.hid (And.intro PR10 (And.intro o9 E9))
                clear K6 PR9 K10 KX9 PR10 o9 E9
                go_wp2_with (first | ((apply load_by rfl _ _ rfl _ rfl); (focus (with_reducible assumption))) | ((apply store_by rfl _ _ _ rfl _ rfl); (focus (with_reducible assumption)); (focus rfl)))
                refine bodyPost_ret (results_cell2 Tryd.results17 _ _ (w.heap.size + 1) 53 X.cells _ rfl KF Tryd.underlying53 rfl Tryd.sizeBd) rfl ?_
                exact rmade_end HH.out HV.out.2.2.1 HV.out.1.lt HPA.out HQ.out (HXX.out.trans HNW.out.symm) (by omega) (HE4.out.trans HF.out.2.2) HF.out.1 HF.out.2.1 (by have := HE4.out.size; omega) hV2
            have d1 : decide ((k : Int) < (n : Int)) = true := decide_eq_true (by omega)
            have d2 : decide (k < n) = true := decide_eq_true hlt
            have hkn : (k : Int) < (n : Int) := by omega
            obtain ⟨y, hy⟩ : ∃ y, B[k]? = some y := ⟨_, List.getElem?_eq_getElem (by rw [HV.out.2.2.2.2]; omega)⟩
            obtain ⟨ab, ao, rfl, _, _⟩ := HS.out.at (HE4.out.trans E5) (by omega)
            have LY := Lib.hid (fun W (E : Ext W4 W) => (show (Instr.loadAt 53 (.pointer (some ⟨ab, ao + k * 23, none⟩))).run Tryd.prog W = .ok (.agg #[.int .i64 y.flow.kind, .int .i64 y.flow.client.x0, .int .i64 y.flow.client.x1, .int .i64 y.flow.client.x2, .int .i64 y.flow.client.x3, .int .i64 y.flow.client.x4, .int .i64 y.flow.client.x5, .int .i64 y.flow.client.x6, .int .i64 y.flow.client.x7, .int .i64 y.flow.port, .int .i64 y.flow.dst.x0, .int .i64 y.flow.dst.x1, .int .i64 y.flow.dst.x2, .int .i64 y.flow.dst.x3, .int .i64 y.flow.dst.x4, .int .i64 y.flow.dst.x5, .int .i64 y.flow.dst.x6, .int .i64 y.flow.dst.x7, .int .i64 y.flow.door, .int .i64 y.near, .int .i64 y.back, .int .i64 y.far, .int .i64 y.last]) W from (HS.out.ext (HE4.out.trans E)).bind hy))
            have cy : wr.cell? ⟨ab, ao + k * 23 + 19, none⟩ = some (.int .i64 y.near) := by
              rcases (HS.out.ext (HE4.out.trans E5)).2 with h0 | ⟨b', off', hb, hcs⟩
              · omega
              · cases hb
                exact hcs k y hy 19 _ rfl
            have wk : IntKind.i64.wrap ((k : Int) + 1) = (k : Int) + 1 := IntWalk.i64_in _ (by omega)
            have HY := Lib.hid hy
            have HXN := Lib.hid (show X.near = N by rw [HXX.out])
            clear ho5 E5 hy
            cases hd : insD X B k
            case true =>
              have lda := LY.out wr HE5.out
              go_wp2_with (first | ((apply load_by rfl _ _ rfl _ rfl); (focus (with_reducible assumption))) | (at_builtin; refine Halt.out ?_))
              refine Halt.mk ?_
              refine appBL rfl _ _ rfl W4.heap.size u18 (insK X B k) rfl (HO5.out.ext ((Ext.refl wr).alloc _)) _ _ _ [y] rfl (Blk.binds1 (b := y) (Blk.new _ _ _)) (by omega) (by have := HE5.out.size; simp; omega) ?_
              intro v9 W9 o9 g9 b9 l9
              have E9 : Ext W4 W9 := Below.trans (HE5.out.alloc (.cells #[.int .i64 y.flow.kind, .int .i64 y.flow.client.x0, .int .i64 y.flow.client.x1, .int .i64 y.flow.client.x2, .int .i64 y.flow.client.x3, .int .i64 y.flow.client.x4, .int .i64 y.flow.client.x5, .int .i64 y.flow.client.x6, .int .i64 y.flow.client.x7, .int .i64 y.flow.port, .int .i64 y.flow.dst.x0, .int .i64 y.flow.dst.x1, .int .i64 y.flow.dst.x2, .int .i64 y.flow.dst.x3, .int .i64 y.flow.dst.x4, .int .i64 y.flow.dst.x5, .int .i64 y.flow.dst.x6, .int .i64 y.flow.dst.x7, .int .i64 y.flow.door, .int .i64 y.near, .int .i64 y.back, .int .i64 y.far, .int .i64 y.last] 53)) b9
              obtain ⟨i1, i2⟩ := insK_on (x := X) HY.out (.inl hd)
              rw [← i1] at o9
              have HF := Lib.hid (And.intro o9 (And.intro E9 (i2.trans hd)))
              clear lda g9 b9 l9 i1 i2 o9 E9 hd cy cS
              go_wp2_with fail
              go_roundw
              case rel => exact ⟨k + 1, by omega, by go_num, by rw [HF.out.2.2], HF.out.1, HF.out.2.1⟩
              case measure => simp [intOf] <;> omega
            case false =>
              by_cases hl : X.near < y.near
              case neg =>
                have dl : decide (N < y.near) = false := decide_eq_false (by have := HXN.out; omega)
                have lda := LY.out wr HE5.out
                go_wp2_with (first | ((apply load_by rfl _ _ rfl _ rfl); (focus (with_reducible assumption))) | (at_builtin; refine Halt.out ?_))
                refine Halt.mk ?_
                refine appBL rfl _ _ rfl W4.heap.size u18 (insK X B k) rfl (HO5.out.ext ((Ext.refl wr).alloc _)) _ _ _ [y] rfl (Blk.binds1 (b := y) (Blk.new _ _ _)) (by omega) (by have := HE5.out.size; simp; omega) ?_
                intro v9 W9 o9 g9 b9 l9
                have E9 : Ext W4 W9 := Below.trans (HE5.out.alloc (.cells #[.int .i64 y.flow.kind, .int .i64 y.flow.client.x0, .int .i64 y.flow.client.x1, .int .i64 y.flow.client.x2, .int .i64 y.flow.client.x3, .int .i64 y.flow.client.x4, .int .i64 y.flow.client.x5, .int .i64 y.flow.client.x6, .int .i64 y.flow.client.x7, .int .i64 y.flow.port, .int .i64 y.flow.dst.x0, .int .i64 y.flow.dst.x1, .int .i64 y.flow.dst.x2, .int .i64 y.flow.dst.x3, .int .i64 y.flow.dst.x4, .int .i64 y.flow.dst.x5, .int .i64 y.flow.dst.x6, .int .i64 y.flow.dst.x7, .int .i64 y.flow.door, .int .i64 y.near, .int .i64 y.back, .int .i64 y.far, .int .i64 y.last] 53)) b9
                obtain ⟨i1, i2⟩ := insK_on (x := X) HY.out (.inr (by omega))
                rw [← i1] at o9
                have HF := Lib.hid (And.intro o9 (And.intro E9 (i2.trans hd)))
                clear lda g9 b9 l9 i1 i2 o9 E9 hd cy cS dl
                go_wp2_with fail
                go_roundw
                case rel => exact ⟨k + 1, by omega, by go_num, by rw [HF.out.2.2], HF.out.1, HF.out.2.1⟩
                case measure => simp [intOf] <;> omega
              case pos =>
                have dl : decide (N < y.near) = true := decide_eq_true (by have := HXN.out; omega)
                have ldx := HLX.out wr HE5.out
                go_wp2_with (first | ((apply load_by rfl _ _ rfl _ rfl); (focus (with_reducible assumption))) | (at_builtin; refine Halt.out ?_))
                refine Halt.mk ?_
                refine appBL rfl _ _ rfl W4.heap.size u18 (insK X B k) rfl (HO5.out.ext ((Ext.refl wr).alloc _)) _ _ _ [X] rfl (Blk.binds1 (b := X) (Blk.new _ _ _)) (by omega) (by have := HE5.out.size; simp; omega) ?_
                intro v9 W9 o9 g9 b9 l9
                have E9 : Ext W4 W9 := Below.trans (HE5.out.alloc (.cells #[.int .i64 X.flow.kind, .int .i64 X.flow.client.x0, .int .i64 X.flow.client.x1, .int .i64 X.flow.client.x2, .int .i64 X.flow.client.x3, .int .i64 X.flow.client.x4, .int .i64 X.flow.client.x5, .int .i64 X.flow.client.x6, .int .i64 X.flow.client.x7, .int .i64 X.flow.port, .int .i64 X.flow.dst.x0, .int .i64 X.flow.dst.x1, .int .i64 X.flow.dst.x2, .int .i64 X.flow.dst.x3, .int .i64 X.flow.dst.x4, .int .i64 X.flow.dst.x5, .int .i64 X.flow.dst.x6, .int .i64 X.flow.dst.x7, .int .i64 X.flow.door, .int .i64 X.near, .int .i64 X.back, .int .i64 X.far, .int .i64 X.last] 53)) b9
                have hz9 := E9.size
                have cS := CE.out _ (HE4.out.trans E9)
                have lda := LY.out W9 E9
                have HO9 := Lib.hid (And.intro o9 E9)
                clear ldx g9 b9 l9 o9 E9 cy
                go_wp2_with (first | ((apply load_by rfl _ _ rfl _ rfl); (focus (with_reducible assumption))) | (at_builtin; refine Halt.out ?_))
                refine Halt.mk ?_
                refine appBL rfl _ _ rfl W4.heap.size v9 (insK X B k ++ [X]) rfl (HO9.out.1.ext ((Ext.refl W9).alloc _)) _ _ _ [y] rfl (Blk.binds1 (b := y) (Blk.new _ _ _)) (by simp; omega) (by simp; omega) ?_
                intro v10 W10 o10 g10 b10 l10
                have E10 : Ext W4 W10 := Below.trans (HO9.out.2.alloc (.cells #[.int .i64 y.flow.kind, .int .i64 y.flow.client.x0, .int .i64 y.flow.client.x1, .int .i64 y.flow.client.x2, .int .i64 y.flow.client.x3, .int .i64 y.flow.client.x4, .int .i64 y.flow.client.x5, .int .i64 y.flow.client.x6, .int .i64 y.flow.client.x7, .int .i64 y.flow.port, .int .i64 y.flow.dst.x0, .int .i64 y.flow.dst.x1, .int .i64 y.flow.dst.x2, .int .i64 y.flow.dst.x3, .int .i64 y.flow.dst.x4, .int .i64 y.flow.dst.x5, .int .i64 y.flow.dst.x6, .int .i64 y.flow.dst.x7, .int .i64 y.flow.door, .int .i64 y.near, .int .i64 y.back, .int .i64 y.far, .int .i64 y.last] 53)) b10
                have i1 := insK_put HY.out hd hl
                rw [← i1] at o10
                have i2 : insD X B (k + 1) = true := by rw [insD_step HY.out, decide_eq_true hl, Bool.or_true]
                have HF := Lib.hid (And.intro o10 (And.intro E10 i2))
                clear lda g10 b10 l10 i1 i2 o10 E10 hd cS dl
                go_wp2_with fail
                go_roundw
                case rel => exact ⟨k + 1, by omega, by go_num, by rw [HF.out.2.2], HF.out.1, HF.out.2.1⟩
                case measure => simp [intOf] <;> omega
end Go.Proofs.YtefdhlmljocnkaaDoor
/- The document's table of binds: Expire; two rows of binds compared; NewTable. Conditions: as each theorem states them. -/
namespace Go.Proofs.YtefdhlmljocnkaaDoor
open Go.RowKit
set_option maxRecDepth 100000 in
set_option maxHeartbeats 2000000 in
theorem sbinds_yes (a b : Option Addr) (n c d : Nat) (xs : List Bd) (w : World) (h1 : KB.See w a n xs) (h2 : KB.See w b n xs) (hn : n ≤ 65536) :
    Calls Tryd.prog 24 #[.slice a n c, .slice b n d] w fun e w' => e = .returned (.bool true) ∧ Ext w w' := by
  have HA := Lib.hid h1
  have HB := Lib.hid h2
  have hl := h1.1
  clear h1 h2
  go_enter Tryd.func24, Tryd.ntmps24
  go_wp2_with fail
  go_loopw [5] (fun i wr => ∃ k : Nat, k ≤ n ∧ i = .int .i64 k ∧ Ext w wr) (fun i _ => n - (intOf i).toNat)
  case atStart => exact ⟨0, Nat.zero_le _, rfl, Ext.refl w⟩
  case round =>
    obtain ⟨k, hk, rfl, E⟩ := hrel
    have HE := Lib.hid E
    by_cases hlt : k < n
    case neg =>
      have d1 : decide ((k : Int) < (n : Int)) = false := decide_eq_false (by omega)
      have d2 : decide (k < n) = false := decide_eq_false hlt
      clear E
      go_wp2_with fail
      go_returns
      exact ⟨rfl, HE.out⟩
    have d1 : decide ((k : Int) < (n : Int)) = true := decide_eq_true (by omega)
    have d2 : decide (k < n) = true := decide_eq_true hlt
    have hkn : (k : Int) < (n : Int) := by omega
    obtain ⟨x, hx⟩ : ∃ x, xs[k]? = some x := ⟨_, List.getElem?_eq_getElem (by omega)⟩
    obtain ⟨ab, ao, rfl, _, _⟩ := HA.out.at E (by omega)
    obtain ⟨bb, bo, rfl, _, _⟩ := HB.out.at E (by omega)
    have la := Lib.hid (fun m => (HA.out.ext (E.drewN m)).bind hx)
    have lb := Lib.hid (fun m => (HB.out.ext (E.drewN m)).bind hx)
    have le : ∀ W, (Op.equalIn 10000 53 (.agg x.cells) (.agg x.cells)).run Tryd.prog W = .ok true W := fun W => by rw [run_bdEq, (bdEq_iff x x).2 rfl]
    have wk : IntKind.i64.wrap ((k : Int) + 1) = (k : Int) + 1 := IntWalk.i64_in _ (by omega)
    clear E hx
    go_wp2_with fail
    refine wp_region_quiet_lit (by kernel_rfl) (by kernel_rfl) ?_; repeat (go_big_quiet_step (fail))
    go_big_quiet_want; refine quiet_ld _ _ rfl rfl (by rintro _ ⟨m, rfl⟩; exact la.out m) ?_; go_big_quiet_on; (try simp only [Act.put, List.setIfInBounds_toArray, List.set_cons_zero, List.set_cons_succ]); repeat (go_big_quiet_step (fail))
    go_big_quiet_want; refine quiet_ld _ _ rfl rfl (by rintro _ ⟨m, rfl⟩; exact lb.out m) ?_; go_big_quiet_on; (try simp only [Act.put, List.setIfInBounds_toArray, List.set_cons_zero, List.set_cons_succ]); repeat (go_big_quiet_step (fail))
    refine wpQuiet_nil ?_; intro _ hw'; obtain ⟨nq, hw''⟩ := hw'; subst hw''
    clear la lb le
    go_wp2_with fail
    go_roundw
    case rel => exact ⟨k + 1, by omega, by go_num, HE.out.drewN _⟩
    case measure => simp [intOf] <;> omega
set_option maxRecDepth 100000 in
set_option maxHeartbeats 1000000 in
theorem rnewT (n : Nat) (w : World) (h0 : 1 ≤ n) (h1 : n ≤ 16) : Calls Tryd.prog 14 #[.int .i64 (n : Int)] w fun e w' => ∃ g : RG, e = .returned (.pointer (some ⟨g.gR, 0, none⟩)) ∧ RT w' g w'.heap.size (.slice none 0 0) (PS.zero n) [] ∧ Ext w w' ∧ ∀ x ∈ g.all, w.heap.size ≤ x := by
  go_enter Tryd.func14, Tryd.ntmps14
  go_wp2_with fail
  refine (rnew_ok n w h0 h1).mono ?_
  rintro e W1 ⟨gM, gW, gT, rfl, R1, E1, hM, hW, hT⟩
  have hMl := R1.ptr.lt
  have hWl := R1.who.lt
  have hTl := R1.tak.lt
  go_wp2_with fail
  go_returns
  have hz := E1.size
  refine ⟨⟨W1.heap.size, gM, gW, gT⟩, rfl, ⟨Blk.new W1 _ _, ⟨RS.zero n, R1.ext ((Ext.refl W1).alloc _), ?_⟩, Kin.Own.nil _ _, ?_, ?_, Nat.le_refl _⟩, E1.alloc _, ?_⟩
  · exact ⟨rfl, rfl, fun _ _ h => by cases h⟩
  · have := R1.ne; simp [RG.all]; omega
  · intro x hx; simp [RG.all] at hx ⊢; omega
  · intro x hx; simp [RG.all] at hx; omega
theorem backs_has {s : PS} {B : List Bd} (h : Inv0 s B) {C : List Bd} (hC : ∀ c ∈ C, c ∈ B) {y : Bd} (hy : y ∈ B) (hn : y ∉ C) : (s.backs C).has y.near = true := by
  obtain ⟨i, h0, h1, h2, _⟩ := h.near hy
  rw [h0]
  refine PS.has_of (s := s.backs C) h1 ?_
  show (s.tk i && !(C.any fun b => (b.near - 1024).toNat == i)) = true
  rw [h2, Bool.true_and, Bool.not_eq_true', List.any_eq_false]
  intro c hc he
  have hlo := h.low c (hC c hc)
  have hcn : c.near = y.near := by simp at he; omega
  have h3 := findN_of h (hC c hc)
  have h4 := findN_of h hy
  rw [hcn, h4] at h3
  cases h3
  exact hn hc
theorem take_mem {B : List Bd} {k : Nat} {c : Bd} (h : c ∈ B.take k) : c ∈ B := List.mem_of_mem_take h
theorem take_not {s : PS} {B : List Bd} (h : Inv0 s B) {k : Nat} {y : Bd} (hy : B[k]? = some y) : y ∉ B.take k := fun hm => by
  obtain ⟨j, hj⟩ := List.mem_iff_getElem?.1 hm
  rw [List.getElem?_take] at hj
  split at hj
  · rename_i hlt
    have hnd : B.Nodup := nodup_of_map h.nears
    have := (List.getElem?_inj (i := j) (j := k) (by have := (List.getElem?_eq_some_iff.1 hj).1; omega) hnd).1 (hj.trans hy.symm)
    omega
  · cases hj
theorem outB_step {now : Int} {B : List Bd} {k : Nat} {y : Bd} (hy : B[k]? = some y) : outB now (B.take (k + 1)) = (if past now y = true then outB now (B.take k) ++ [y] else outB now (B.take k)) ∧ restB now (B.take (k + 1)) = (if past now y = true then restB now (B.take k) else restB now (B.take k) ++ [y]) := by
  have e : B.take (k + 1) = B.take k ++ [y] := by rw [List.take_add_one, hy]; rfl
  unfold outB restB
  rw [e, List.filter_append, List.filter_append]
  cases hp : past now y <;> simp [hp]
set_option maxRecDepth 100000 in
set_option maxHeartbeats 4000000 in
theorem rexpire_any (g : RG) (b : Nat) (v : Value) (s : PS) (B : List Bd) (now : Int) (w : World) (h : RT w g b v s B) (hI : Inv0 s B) (hB : B.length ≤ 128) (hn0 : okT now = true) :
    Calls Tryd.prog 22 #[.pointer (some ⟨g.gR, 0, none⟩), .int .i64 now] w fun e w' => ∃ u v', e = .returned u ∧ KB.Own 53 w' w.heap.size u (outB now B) ∧ RT w' g b v' (s.backs (outB now B)) (restB now B) ∧ Kp [g.gR, g.gW, g.gT] w w' := by
  have HH := Lib.hid h
  have hRl := h.ptr.lt
  have hbase := h.base
  have ht := okT_iff.1 hn0
  obtain ⟨r0, hr0, hl0⟩ := h.prt
  have hnn := hr0.n1
  have hnl := hl0.n
  have hWl := h.lo g.gW (by simp [RG.all])
  have hTl := h.lo g.gT (by simp [RG.all])
  have hMl := h.lo g.gM (by simp [RG.all])
  have hRb := h.lo g.gR (by simp [RG.all])
  have hap : g.gR ≠ g.gM ∧ g.gR ≠ g.gW ∧ g.gR ≠ g.gT ∧ g.gM ≠ g.gW ∧ g.gM ≠ g.gT := by have := h.apart; simp [RG.all] at this; omega
  obtain ⟨a5, c5, hv5, hc5, hs5, _, _⟩ := h.own.open
  obtain ⟨n, hn⟩ : ∃ n, B.length = n := ⟨_, rfl⟩
  rw [hn] at hv5 hc5 hs5 hB
  have hown : ∀ k, v.ownBlock = some k → k ≠ g.gW ∧ k ≠ g.gT := fun k hk => by have := (h.own.lt k hk).1; omega
  have HS := Lib.hid (And.intro hs5 (And.intro hn hown))
  have CE := Lib.hid (fun W (E : Kp [g.gW, g.gT] w W) => (show W.cell? ⟨g.gR, 1, none⟩ = some (.slice a5 n c5) from (World.cell?_of_block (E.block g.gR hRl (by simp; omega))).trans ((h.ptr.cells 1).trans (by rw [hv5]; rfl))))
  have HR0 := Lib.hid (And.intro hr0 (And.intro hl0 hI))
  have OE := Lib.hid (fun W (E : Kp [g.gW, g.gT] w W) => (show KB.Own 53 W b (.slice a5 n c5) B from by
    rw [← hv5]
    exact h.own.kp E (fun k hk hm => by have := hown k hk; simp at hm; omega)))
  clear h hr0 hl0 hs5 hI hn0
  go_enter Tryd.func22, Tryd.ntmps22
  go_wp2_with fail
  go_loopw [5, 6, 7] (fun vg vr i wr => ∃ k : Nat, k ≤ n ∧ i = .int .i64 k ∧ KB.Own 53 wr w.heap.size vg (outB now (B.take k)) ∧ KB.Own 53 wr w.heap.size vr (restB now (B.take k)) ∧ (∀ x, vg.ownBlock = some x → vr.ownBlock ≠ some x) ∧
      (∃ r, Rrt wr g.gM g.gW g.gT r ∧ Like (s.backs (outB now (B.take k))) r) ∧ Kp [g.gW, g.gT] w wr) (fun _ _ i _ => n - (intOf i).toNat)
  case atStart => exact ⟨0, Nat.zero_le _, rfl, Kin.Own.nil _ _, Kin.Own.nil _ _, (fun _ h => by cases h), ⟨r0, HR0.out.1, by rw [show outB now (B.take 0) = [] from rfl, PS.backs_nil]; exact HR0.out.2.1⟩, Kp.refl _ _⟩
  case round =>
    obtain ⟨k, hk, rfl, og, or, hne, ⟨r, hr, hl⟩, hK⟩ := hrel
    have cS := CE.out _ hK
    by_cases hlt : k < n
    case neg =>
      obtain rfl : k = n := by omega
      have d1 : decide ((k : Int) < (k : Int)) = false := decide_eq_false (by omega)
      have htk : B.take k = B := by rw [← HS.out.2.1]; exact List.take_length
      rw [htk] at og or hl
      obtain ⟨a9, n9, c9, rfl, _, _⟩ := or.read
      obtain ⟨a8, n8, c8, rfl, _, _⟩ := og.read
      have PR := HH.out.ptr.kp hK (by simp; omega)
      have fr : wr.frozen? ⟨g.gR, 1, none⟩ = false := PR.free 1
      have PR2 : Blk (wr.setCell ⟨g.gR, 1, none⟩ (.slice a9 n9 c9)) g.gR 68 #[.pointer (some ⟨g.gM, 0, none⟩), .slice a9 n9 c9] := PR.put 1 _
      have kR : Kp [g.gR] wr (wr.setCell ⟨g.gR, 1, none⟩ (.slice a9 n9 c9)) := Kp.ofGrown (only_set (World.grownBy.refl _ _) _ _) (by simp)
      have hlo : ∀ (u : Value) xs, KB.Own 53 wr w.heap.size u xs → ∀ x, u.ownBlock = some x → x ∉ [g.gR] := fun u xs o x hx hm => by have := (o.lt x hx).1; simp at hm; omega
      have og2 := og.kp kR (hlo _ _ og)
      have or2 := or.kp kR (hlo _ _ or)
      have r2 : Rrt (wr.setCell ⟨g.gR, 1, none⟩ (.slice a9 n9 c9)) g.gM g.gW g.gT r := ⟨hr.ptr.kp kR (by simp; omega), hr.who.kp kR (by simp; omega), hr.tak.kp kR (by simp; omega), hr.ne, hr.n0, hr.n1⟩
      have k2 : Kp [g.gR, g.gW, g.gT] w (wr.setCell ⟨g.gR, 1, none⟩ (.slice a9 n9 c9)) := (hK.mono (by simp)).trans (kR.mono (by simp))
      have HF := Lib.hid (And.intro og2 (And.intro PR2 (And.intro r2 (And.intro hl (And.intro or2 k2)))))
      clear og or hr hl hK PR PR2 kR hlo og2 or2 r2 k2
      go_wp2_with fail
      go_returns
      obtain ⟨og2, PR2, r2, hl, or2, k2⟩ := HF.out
      exact ⟨_, _, rfl, og2, ⟨PR2, ⟨r, r2, hl⟩, or2.mono hbase, HH.out.apart, HH.out.lo, Nat.le_trans hbase k2.size⟩, k2⟩
    have d1 : decide ((k : Int) < (n : Int)) = true := decide_eq_true (by omega)
    have d2 : decide (k < n) = true := decide_eq_true hlt
    have hkn : (k : Int) < (n : Int) := by omega
    obtain ⟨y, hy⟩ : ∃ y, B[k]? = some y := ⟨_, List.getElem?_eq_getElem (by rw [HS.out.2.1]; omega)⟩
    have hym := List.mem_of_getElem? hy
    have hok := HR0.out.2.2.ok y hym
    have hlast := hok.2.2.2
    have hkind := hok.1.1
    obtain ⟨i0, hi0, hi1, _⟩ := HR0.out.2.2.near hym
    have hIs : IsInt y.near := by unfold IsInt; omega
    have oA := OE.out _ hK
    obtain ⟨a6, n6, c6, hv6, _, hsee⟩ := oA.read
    cases hv6
    obtain ⟨ab, ao, rfl, _, _⟩ := hsee.at (Ext.refl wr) (by omega)
    have ld : (Instr.loadAt 53 (.pointer (some ⟨ab, ao + k * 23, none⟩))).run Tryd.prog wr = .ok (.agg y.cells) wr := hsee.bind hy
    have KZ := Blk.new wr 53 #[.int .i64 0, .int .i64 0, .int .i64 0, .int .i64 0, .int .i64 0, .int .i64 0, .int .i64 0, .int .i64 0, .int .i64 0, .int .i64 0, .int .i64 0, .int .i64 0, .int .i64 0, .int .i64 0, .int .i64 0, .int .i64 0, .int .i64 0, .int .i64 0, .int .i64 0, .int .i64 0, .int .i64 0, .int .i64 0, .int .i64 0]
    have st := stoBd KZ y
    have K5 := KZ.row y.cells
    have E5 : Ext wr _ := ((Ext.refl wr).alloc (.cells #[.int .i64 0, .int .i64 0, .int .i64 0, .int .i64 0, .int .i64 0, .int .i64 0, .int .i64 0, .int .i64 0, .int .i64 0, .int .i64 0, .int .i64 0, .int .i64 0, .int .i64 0, .int .i64 0, .int .i64 0, .int .i64 0, .int .i64 0, .int .i64 0, .int .i64 0, .int .i64 0, .int .i64 0, .int .i64 0, .int .i64 0] 53)).row (k := wr.heap.size) (Nat.le_refl _) y.cells
    have HV := Lib.hid (And.intro og (And.intro or (And.intro hne (And.intro hr (And.intro hl hK)))))
    have wk : IntKind.i64.wrap ((k : Int) + 1) = (k : Int) + 1 := IntWalk.i64_in _ (by omega)
    have wl : IntKind.i64.wrap (now - y.last) = now - y.last := IntWalk.i64_in _ (by omega)
    have HY := Lib.hid (And.intro hy (And.intro hym hIs))
    have hsl := hK.size
    clear KZ og or hne hr hl hK hsee hy hym hok hi0 hi1 hIs oA
    go_upto_region 6 with (first | ((apply load_by rfl _ _ rfl _ rfl); (focus (with_reducible assumption))) | ((apply store_by rfl _ _ _ rfl _ rfl); (focus (with_reducible assumption)); (focus rfl)))
    refine at_worldE (fun W => Ext wr W ∧ Blk W wr.heap.size 53 y.cells) ⟨E5, K5⟩ ?_
    clear ld st K5 E5 cS
    rintro W6 ⟨E6, K6⟩
    have c0 := K6.cells 0
    have cl := K6.cells 22
    change _ = some (Value.int .i64 y.flow.kind) at c0
    change _ = some (Value.int .i64 y.last) at cl
    have ldb : (Instr.loadAt 53 (.pointer (some ⟨wr.heap.size, 0, none⟩))).run Tryd.prog W6 = .ok (.agg #[.int .i64 y.flow.kind, .int .i64 y.flow.client.x0, .int .i64 y.flow.client.x1, .int .i64 y.flow.client.x2, .int .i64 y.flow.client.x3, .int .i64 y.flow.client.x4, .int .i64 y.flow.client.x5, .int .i64 y.flow.client.x6, .int .i64 y.flow.client.x7, .int .i64 y.flow.port, .int .i64 y.flow.dst.x0, .int .i64 y.flow.dst.x1, .int .i64 y.flow.dst.x2, .int .i64 y.flow.dst.x3, .int .i64 y.flow.dst.x4, .int .i64 y.flow.dst.x5, .int .i64 y.flow.dst.x6, .int .i64 y.flow.dst.x7, .int .i64 y.flow.door, .int .i64 y.near, .int .i64 y.back, .int .i64 y.far, .int .i64 y.last]) W6 := loaBd K6
    have HK6 := Lib.hid (And.intro K6 E6)
    have hz6 := E6.size
    obtain ⟨og, or, hne, hr, hl, hK⟩ := HV.out
    have og6 := og.ext E6
    have or6 := or.ext E6
    have hlg : ∀ x, u5.ownBlock = some x → w.heap.size ≤ x ∧ x < wr.heap.size := og.lt
    have hlr : ∀ x, u6.ownBlock = some x → w.heap.size ≤ x ∧ x < wr.heap.size := or.lt
    have hlo : (outB now (B.take k)).length ≤ 128 ∧ (restB now (B.take k)).length ≤ 128 := by
      have h1 := List.length_filter_le (past now) (B.take k)
      have h2 := List.length_filter_le (fun b => !past now b) (B.take k)
      have h3 : (B.take k).length ≤ 128 := by rw [List.length_take]; omega
      exact ⟨Nat.le_trans h1 h3, Nat.le_trans h2 h3⟩
    obtain ⟨s1, s2⟩ := outB_step (now := now) HY.out.1
    have hW6 := HK6.out.2.size
    have hpe : past now y = !decide (now - y.last < life y.flow.kind) := rfl
    clear og or hr hl hK E6 K6
    cases hp : past now y
    case false =>
      rw [hp, if_neg (by decide)] at s1 s2
      have hor : (y.flow.kind = 6 ∧ now - y.last < 100) ∨ (y.flow.kind = 17 ∧ now - y.last < 30) := by
        rw [hp] at hpe
        rcases hkind with h6 | h17
        · left
          rw [h6] at hpe
          have : decide (now - y.last < 100) = true := by simpa [life] using hpe.symm
          exact ⟨h6, of_decide_eq_true this⟩
        · right
          rw [h17] at hpe
          have : decide (now - y.last < 30) = true := by simpa [life] using hpe.symm
          exact ⟨h17, of_decide_eq_true this⟩
      clear hpe hkind
      rcases hor with ⟨h6, h7⟩ | ⟨h6, h7⟩
      case' inl =>
        have b1 : (y.flow.kind == 6) = true := by rw [h6]; rfl
        have b2 : (y.flow.kind == 17) = false := by rw [h6]; rfl
        have b3 : decide (100 ≤ now - y.last) = false := decide_eq_false (by omega)
      case' inr =>
        have b1 : (y.flow.kind == 6) = false := by rw [h6]; rfl
        have b2 : (y.flow.kind == 17) = true := by rw [h6]; rfl
        have b3 : decide (30 ≤ now - y.last) = false := decide_eq_false (by omega)
      all_goals
        clear h6 h7 hp
        go_wp2_with (first | ((apply load_by rfl _ _ rfl _ rfl); (focus (with_reducible assumption))) | (at_builtin; refine Halt.out ?_))
        refine Halt.mk ?_
        refine appBL rfl _ _ rfl w.heap.size u6 (restB now (B.take k)) rfl (or6.ext ((Ext.refl W6).alloc _)) _ _ _ [y] rfl (Blk.binds1 (b := y) (Blk.new _ _ _)) (by omega) (by simp; omega) ?_
        intro v9 W9 o9 g9 b9 l9
        rw [← s2] at o9
        have E7 : Ext W6 _ := (Ext.refl W6).alloc (.cells #[.int .i64 y.flow.kind, .int .i64 y.flow.client.x0, .int .i64 y.flow.client.x1, .int .i64 y.flow.client.x2, .int .i64 y.flow.client.x3, .int .i64 y.flow.client.x4, .int .i64 y.flow.client.x5, .int .i64 y.flow.client.x6, .int .i64 y.flow.client.x7, .int .i64 y.flow.port, .int .i64 y.flow.dst.x0, .int .i64 y.flow.dst.x1, .int .i64 y.flow.dst.x2, .int .i64 y.flow.dst.x3, .int .i64 y.flow.dst.x4, .int .i64 y.flow.dst.x5, .int .i64 y.flow.dst.x6, .int .i64 y.flow.dst.x7, .int .i64 y.flow.door, .int .i64 y.near, .int .i64 y.back, .int .i64 y.far, .int .i64 y.last] 53)
        have og9 := (og6.ext E7).rowed g9 (fun x hx he => hne x hx he.symm)
        rw [← s1] at og9
        have hne9 : ∀ x, u5.ownBlock = some x → v9.ownBlock ≠ some x := fun x hx he => by
          rcases l9 with h9 | h9
          · exact hne x hx (h9.symm.trans he)
          · have h1 := (hlg x hx).2
            rw [h9, World.size_alloc] at he
            cases he
            omega
        have k9 := ((HV.out.2.2.2.2.2.andExt HK6.out.2).andExt E7).grown g9 (fun x hx => (hlr x hx).1)
        have kr := Kp.ofRow g9
        have hnr : ∀ x, x < w.heap.size → x ∉ u6.ownBlock.toList := fun x hx hm => by have := (hlr x (by simpa using hm)).1; omega
        obtain ⟨r2, rl⟩ : ∃ r', Rrt W9 g.gM g.gW g.gT r' ∧ Like (s.backs (outB now (B.take (k + 1)))) r' := by
          have hr := (HV.out.2.2.2.1.ext HK6.out.2).ext E7
          refine ⟨r, ⟨hr.ptr.kp kr (hnr _ (by omega)), hr.who.kp kr (hnr _ (by omega)), hr.tak.kp kr (hnr _ (by omega)), hr.ne, hr.n0, hr.n1⟩, ?_⟩
          rw [s1]
          exact HV.out.2.2.2.2.1
        have HF := Lib.hid (And.intro og9 (And.intro o9 (And.intro hne9 (And.intro rl k9))))
        clear o9 g9 b9 l9 E7 og9 hne9 k9 kr rl og6 or6 c0 cl ldb
        go_wp2_with fail
        go_roundw
        case rel => exact ⟨k + 1, by omega, by go_num, HF.out.1, HF.out.2.1, HF.out.2.2.1, ⟨r2, HF.out.2.2.2.1⟩, HF.out.2.2.2.2⟩
        case measure => simp [intOf] <;> omega
    case true =>
      rw [hp, if_pos rfl] at s1 s2
      have hor : (y.flow.kind = 6 ∧ ¬ now - y.last < 100) ∨ (y.flow.kind = 17 ∧ ¬ now - y.last < 30) := by
        rw [hp] at hpe
        rcases hkind with h6 | h17
        · left
          rw [h6] at hpe
          have : decide (now - y.last < 100) = false := by simpa [life] using hpe.symm
          exact ⟨h6, of_decide_eq_false this⟩
        · right
          rw [h17] at hpe
          have : decide (now - y.last < 30) = false := by simpa [life] using hpe.symm
          exact ⟨h17, of_decide_eq_false this⟩
      have hhas := backs_has HR0.out.2.2 (C := outB now (B.take k)) (fun c hc => take_mem (List.mem_filter.1 hc).1) HY.out.2.1 (fun hm => take_not HR0.out.2.2 HY.out.1 (List.mem_filter.1 hm).1)
      have hback := PS.backs_add s _ _ hhas
      rw [← s1] at hback
      have HBK := Lib.hid hback
      have HS1 := Lib.hid (And.intro s1 s2)
      clear hpe hkind hhas hback s1 s2
      rcases hor with ⟨h6, h7⟩ | ⟨h6, h7⟩
      case' inl =>
        have b1 : (y.flow.kind == 6) = true := by rw [h6]; rfl
        have b2 : (y.flow.kind == 17) = false := by rw [h6]; rfl
        have b3 : decide (100 ≤ now - y.last) = true := decide_eq_true (by omega)
        have b4 : 100 ≤ now - y.last := by omega
      case' inr =>
        have b1 : (y.flow.kind == 6) = false := by rw [h6]; rfl
        have b2 : (y.flow.kind == 17) = true := by rw [h6]; rfl
        have b3 : decide (30 ≤ now - y.last) = true := decide_eq_true (by omega)
        have b4 : 30 ≤ now - y.last := by omega
      all_goals
        clear h6 h7 hp
        go_upto_region 7 with (fail)
        clear b1 b2 b3 b4 c0 cl
        go_wp2_with (first | ((apply load_by rfl _ _ rfl _ rfl); (focus (with_reducible assumption))) | (at_builtin; refine Halt.out ?_))
        refine Halt.mk ?_
        refine appBL rfl _ _ rfl w.heap.size u5 (outB now (B.take k)) rfl (og6.ext ((Ext.refl W6).alloc _)) _ _ _ [y] rfl (Blk.binds1 (b := y) (Blk.new _ _ _)) (by omega) (by simp; omega) ?_
        intro v9 W9 o9 g9 b9 l9
        rw [← HS1.out.1] at o9
        have E7 : Ext W6 _ := (Ext.refl W6).alloc (.cells #[.int .i64 y.flow.kind, .int .i64 y.flow.client.x0, .int .i64 y.flow.client.x1, .int .i64 y.flow.client.x2, .int .i64 y.flow.client.x3, .int .i64 y.flow.client.x4, .int .i64 y.flow.client.x5, .int .i64 y.flow.client.x6, .int .i64 y.flow.client.x7, .int .i64 y.flow.port, .int .i64 y.flow.dst.x0, .int .i64 y.flow.dst.x1, .int .i64 y.flow.dst.x2, .int .i64 y.flow.dst.x3, .int .i64 y.flow.dst.x4, .int .i64 y.flow.dst.x5, .int .i64 y.flow.dst.x6, .int .i64 y.flow.dst.x7, .int .i64 y.flow.door, .int .i64 y.near, .int .i64 y.back, .int .i64 y.far, .int .i64 y.last] 53)
        have or9 := (or6.ext E7).rowed g9 (fun x hx he => hne x he.symm hx)
        rw [← HS1.out.2] at or9
        have hne9 : ∀ x, v9.ownBlock = some x → u6.ownBlock ≠ some x := fun x hx he => by
          rcases l9 with h9 | h9
          · exact hne x (h9.symm.trans hx) he
          · have h1 := (hlr x he).2
            rw [h9, World.size_alloc] at hx
            cases hx
            omega
        have k9 := ((HV.out.2.2.2.2.2.andExt HK6.out.2).andExt E7).grown g9 (fun x hx => (hlg x hx).1)
        have kr := Kp.ofRow g9
        have hnr : ∀ x, x < w.heap.size ∨ wr.heap.size ≤ x → x ∉ u5.ownBlock.toList := fun x hx hm => by have := hlg x (by simpa using hm); omega
        have hr9 : Rrt W9 g.gM g.gW g.gT r := by
          have hr := (HV.out.2.2.2.1.ext HK6.out.2).ext E7
          exact ⟨hr.ptr.kp kr (hnr _ (.inl (by omega))), hr.who.kp kr (hnr _ (.inl (by omega))), hr.tak.kp kr (hnr _ (.inl (by omega))), hr.ne, hr.n0, hr.n1⟩
        have PR9 := HH.out.ptr.kp k9 (by simp; omega)
        have K9 := (HK6.out.1.ext E7).kp kr (hnr _ (.inr (Nat.le_refl _)))
        have cM : W9.cell? ⟨g.gR, 0, none⟩ = some (.pointer (some ⟨g.gM, 0, none⟩)) := PR9.cells 0
        have cn : W9.cell? ⟨wr.heap.size, 19, none⟩ = some (.int .i64 y.near) := K9.cells 19
        have HG := Lib.hid (fun W (E : Ext W9 W) => rgive_any g.gM g.gW g.gT (s.backs (outB now (B.take k))) r y.near W (hr9.ext E) HV.out.2.2.2.2.1 HY.out.2.2)
        have HF := Lib.hid (And.intro o9 (And.intro or9 (And.intro hne9 (And.intro k9 PR9))))
        have hlt9 : ∀ x, v9.ownBlock = some x → w.heap.size ≤ x := fun x hx => (o9.lt x hx).1
        clear o9 g9 b9 l9 E7 or9 hne9 k9 kr og6 or6 ldb hr9 PR9 hnr
        go_wp2_with fail
        have S0 : (fun w' => w'.cell? ⟨g.gR, 0, none⟩ = some (.pointer (some ⟨g.gM, 0, none⟩)) ∧ w'.cell? ⟨wr.heap.size, 19, none⟩ = some (.int .i64 y.near)) W9.drew := ⟨cM, cn⟩
        refine wp_region_held_drew (S := (fun w' => w'.cell? ⟨g.gR, 0, none⟩ = some (.pointer (some ⟨g.gM, 0, none⟩)) ∧ w'.cell? ⟨wr.heap.size, 19, none⟩ = some (.int .i64 y.near))) (by kernel_rfl) S0 (fun hS0 => ?_)
        clear S0 cM cn
        have E9 : Ext W9 W9.drew := (Ext.refl W9).drew
        have K10 := Blk.drew K9
        clear K9
        generalize W9.drew = V at *
        (refine wpAnyH_take (i := 0) (v := ?_) rfl (by kernel_rfl) (by kernel_rfl) (by kernel_rfl) (fun _ _ _ h => h) (Or.inl ⟨by rfl, ?_⟩) (by assumption) ?_; rotate_left; focus (intro w hSw; (try dsimp only at hSw); go_simp; try with_reducible rfl); try simp only [Act.put, List.getElem_toArray, List.getElem_cons_succ, List.getElem_cons_zero, List.setIfInBounds_toArray, List.set_cons_zero, List.set_cons_succ])
        (refine wpAnyH_take (i := 1) (v := ?_) rfl (by kernel_rfl) (by kernel_rfl) (by kernel_rfl) (fun _ _ _ h => h) (Or.inl ⟨by rfl, ?_⟩) (by assumption) ?_; rotate_left; focus (intro w hSw; (try dsimp only at hSw); go_simp; try with_reducible rfl); try simp only [Act.put, List.getElem_toArray, List.getElem_cons_succ, List.getElem_cons_zero, List.setIfInBounds_toArray, List.set_cons_zero, List.set_cons_succ])
        (refine wpAnyH_take (i := 2) (v := ?_) rfl (by kernel_rfl) (by kernel_rfl) (by kernel_rfl) (fun _ _ _ h => h) (Or.inl ⟨by rfl, ?_⟩) (by assumption) ?_; rotate_left; focus (intro w hSw; (try dsimp only at hSw); go_simp; try with_reducible rfl); try simp only [Act.put, List.getElem_toArray, List.getElem_cons_succ, List.getElem_cons_zero, List.setIfInBounds_toArray, List.set_cons_zero, List.set_cons_succ])
        (refine wpAnyH_take (i := 3) (v := ?_) rfl (by kernel_rfl) (by kernel_rfl) (by kernel_rfl) (fun _ _ _ h => h) (Or.inl ⟨by rfl, ?_⟩) (by assumption) ?_; rotate_left; focus (intro w hSw; (try dsimp only at hSw); go_simp; try with_reducible rfl); try simp only [Act.put, List.getElem_toArray, List.getElem_cons_succ, List.getElem_cons_zero, List.setIfInBounds_toArray, List.set_cons_zero, List.set_cons_succ])
        (refine wpAnyH_take (i := 4) (v := ?_) rfl (by kernel_rfl) (by kernel_rfl) (by kernel_rfl) (fun _ _ _ h => h) (Or.inl ⟨by rfl, ?_⟩) (by assumption) ?_; rotate_left; focus (intro w hSw; (try dsimp only at hSw); go_simp; try with_reducible rfl); try simp only [Act.put, List.getElem_toArray, List.getElem_cons_succ, List.getElem_cons_zero, List.setIfInBounds_toArray, List.set_cons_zero, List.set_cons_succ])
        (refine wpAnyH_take (i := 5) (v := ?_) rfl (by kernel_rfl) (by kernel_rfl) (by kernel_rfl) (fun _ _ _ h => h) (Or.inl ⟨by rfl, ?_⟩) (by assumption) ?_; rotate_left; focus (intro w hSw; (try dsimp only at hSw); go_simp; try with_reducible rfl); try simp only [Act.put, List.getElem_toArray, List.getElem_cons_succ, List.getElem_cons_zero, List.setIfInBounds_toArray, List.set_cons_zero, List.set_cons_succ])
        (try simp only [Act.put, List.getElem_toArray, List.getElem_cons_succ, List.getElem_cons_zero, List.setIfInBounds_toArray, List.set_cons_zero, List.set_cons_succ])
        (refine wpAnyH_ready (rs := [6]) (by kernel_rfl) (by simp) ?_; refine AllReadyH.cons rfl (fun K hK => ?_) AllReadyH.nil)
        go_simp
        go_at_call 53
        refine (HG.out V E9).mono ?_
        rintro e V2 ⟨rfl, p2, g2⟩
        have kt : Kp [g.gW, g.gT] W9 V2 := (E9.kp _).trans (Kp.ofTwo g2 (by simp) (by simp))
        have K11 := K10.two g2 (by omega) (by omega)
        have cM : V2.cell? ⟨g.gR, 0, none⟩ = some (.pointer (some ⟨g.gM, 0, none⟩)) := (HF.out.2.2.2.2.kp kt (by simp; omega)).cells 0
        refine hK.out _ _ ⟨cM, K11.cells 19⟩ ?_
        clear hK K cM K10 K11 g2 E9
        intro hS
        refine wpAnyH_done (by kernel_rfl) ?_ _
        rw [HBK.out] at p2
        obtain ⟨r2, hr2, hl2⟩ := p2
        have o10 := HF.out.1.kp kt (fun x hx hm => by have := hlt9 x hx; simp at hm; omega)
        have or10 := HF.out.2.1.kp kt (fun x hx hm => by have := hlr x hx; simp at hm; omega)
        have k10 := HF.out.2.2.2.1.trans kt
        have HF2 := Lib.hid (And.intro o10 (And.intro or10 (And.intro HF.out.2.2.1 (And.intro hr2 (And.intro hl2 k10)))))
        clear o10 or10 k10 hr2 hl2 kt hS hS0 HF HG
        go_wp2_with fail
        go_roundw
        case rel => exact ⟨k + 1, by omega, by go_num, HF2.out.1, HF2.out.2.1, HF2.out.2.2.1, ⟨r2, HF2.out.2.2.2.1, HF2.out.2.2.2.2.1⟩, HF2.out.2.2.2.2.2⟩
        case measure => simp [intOf] <;> omega
end Go.Proofs.YtefdhlmljocnkaaDoor
/- What an argument is, once it is read: addresses, flows, lists of servers. Conditions: as each lemma states them. -/
namespace Go.Proofs.YtefdhlmljocnkaaDoor
open Go.ChangeShapes Go.WideShapes Go.ChangeAt Go.RowKit

def Six.Is (s : Six) : Prop := ∀ k, IsInt (s.l.getD k 0)

section
variable {H : Type} {enc : TypeId × Value → H} {W : World}

theorem open_cell_int {n : Nat} {c : Value} {y : Option (DataW H × List MemPlace)} (hy : y.isSome = true) (h : DataW.trod enc Tryd.prog W 0 (fun _ => true) true n 3 [c] = y) : ∃ x, c = .int .i64 x ∧ IsInt x := by
  obtain ⟨y, rfl⟩ := Option.isSome_iff_exists.1 hy
  obtain ⟨x, hx, _, hw⟩ := DataW.trod_int Tryd.underlying3 h
  exact ⟨x, by simpa using hx, wf_i64 hw⟩
theorem open_cell_bool {n : Nat} {c : Value} {y : Option (DataW H × List MemPlace)} (hy : y.isSome = true) (h : DataW.trod enc Tryd.prog W 0 (fun _ => true) true n 4 [c] = y) : ∃ x, c = .bool x := by
  obtain ⟨y, rfl⟩ := Option.isSome_iff_exists.1 hy
  obtain ⟨x, hx, _⟩ := DataW.trod_bool Tryd.underlying4 h
  exact ⟨x, by simpa using hx⟩
theorem isSome_at {α : Type} {xs : List α} {n j : Nat} (h : xs.length = n) (hj : j < n) : (xs[j]?).isSome = true := by
  rw [List.getElem?_eq_getElem (by omega)]; rfl

theorem Tryd.cellsInt : Tryd.prog.cellsOf 3 = 1 := by kernel_rfl
theorem Tryd.cellsSix : Tryd.prog.cellsOf 23 = 8 := by kernel_rfl
theorem Tryd.cellsFlow : Tryd.prog.cellsOf 47 = 19 := by kernel_rfl
theorem Tryd.cellsBool : Tryd.prog.cellsOf 4 = 1 := by kernel_rfl
theorem Tryd.cellsBack : Tryd.prog.cellsOf 95 = 6 := by kernel_rfl

set_option maxRecDepth 100000 in
theorem open_cells_six {n : Nat} {cs : List Value} {y : Option (DataW H × List MemPlace)} (hy : y.isSome = true) (h : DataW.trod enc Tryd.prog W 0 (fun _ => true) true n 23 cs = y) : ∃ s : Six, cs = s.cells.toList ∧ s.Is := by
  obtain ⟨y, rfl⟩ := Option.isSome_iff_exists.1 hy
  obtain ⟨xs, m, _, _, hl, hlen, hg⟩ := DataW.trod_array Tryd.underlying23 h
  match cs, hl.trans Tryd.cellsSix with
  | [c0, c1, c2, c3, c4, c5, c6, c7], _ =>
    obtain ⟨x0, rfl, i0⟩ := open_cell_int (isSome_at (j := 0) hlen (by omega)) (by simpa [Tryd.cellsInt] using hg 0 (by omega))
    obtain ⟨x1, rfl, i1⟩ := open_cell_int (isSome_at (j := 1) hlen (by omega)) (by simpa [Tryd.cellsInt] using hg 1 (by omega))
    obtain ⟨x2, rfl, i2⟩ := open_cell_int (isSome_at (j := 2) hlen (by omega)) (by simpa [Tryd.cellsInt] using hg 2 (by omega))
    obtain ⟨x3, rfl, i3⟩ := open_cell_int (isSome_at (j := 3) hlen (by omega)) (by simpa [Tryd.cellsInt] using hg 3 (by omega))
    obtain ⟨x4, rfl, i4⟩ := open_cell_int (isSome_at (j := 4) hlen (by omega)) (by simpa [Tryd.cellsInt] using hg 4 (by omega))
    obtain ⟨x5, rfl, i5⟩ := open_cell_int (isSome_at (j := 5) hlen (by omega)) (by simpa [Tryd.cellsInt] using hg 5 (by omega))
    obtain ⟨x6, rfl, i6⟩ := open_cell_int (isSome_at (j := 6) hlen (by omega)) (by simpa [Tryd.cellsInt] using hg 6 (by omega))
    obtain ⟨x7, rfl, i7⟩ := open_cell_int (isSome_at (j := 7) hlen (by omega)) (by simpa [Tryd.cellsInt] using hg 7 (by omega))
    refine ⟨⟨x0, x1, x2, x3, x4, x5, x6, x7⟩, rfl, fun k => ?_⟩
    match k with
    | 0 => exact i0
    | 1 => exact i1
    | 2 => exact i2
    | 3 => exact i3
    | 4 => exact i4
    | 5 => exact i5
    | 6 => exact i6
    | 7 => exact i7
    | k + 8 => simp [Six.l, IsInt]

set_option maxRecDepth 100000 in
/-- An address that came in. -/
theorem open_six {v : Value} {d : DataW H} {p : List MemPlace} {base : Nat} (hv : Value.okWide Tryd.prog W .any base 23 v) (h : DataW.Trod enc Tryd.prog W 0 (fun _ => true) true 23 v d p) : ∃ s : Six, v = s.v ∧ s.Is := by
  obtain ⟨fuel, hf⟩ := h
  obtain ⟨s, hs, hi⟩ := open_cells_six rfl hf
  simp only [Value.okWide, Tryd.underlying23] at hv
  obtain ⟨cs, rfl, _⟩ := hv
  refine ⟨s, ?_, hi⟩
  have : cs.toList = s.cells.toList := by simpa [Value.cells] using hs
  rw [Array.toList_inj.1 this]

def Flow.Is (f : Flow) : Prop := IsInt f.kind ∧ f.client.Is ∧ IsInt f.port ∧ f.dst.Is ∧ IsInt f.door
set_option maxRecDepth 100000 in
theorem open_cells_flow {n : Nat} {cs : List Value} {y : Option (DataW H × List MemPlace)} (hy : y.isSome = true) (h : DataW.trod enc Tryd.prog W 0 (fun _ => true) true n 47 cs = y) : ∃ f : Flow, cs = f.cells.toList ∧ f.Is := by
  obtain ⟨y, rfl⟩ := Option.isSome_iff_exists.1 hy
  obtain ⟨xs, m, _, _, hl, hlen, hg⟩ := DataW.trod_struct Tryd.underlying47 h
  match cs, hl.trans Tryd.cellsFlow with
  | [c0, c1, c2, c3, c4, c5, c6, c7, c8, c9, c10, c11, c12, c13, c14, c15, c16, c17, c18], _ =>
    obtain ⟨x0, rfl, i0⟩ := open_cell_int (isSome_at (j := 0) hlen (by simp)) (by simpa [Tryd.cellsInt] using hg 0 _ rfl)
    obtain ⟨s1, h1, i1⟩ := open_cells_six (isSome_at (j := 1) hlen (by simp)) (by simpa [Tryd.cellsSix] using hg 1 _ rfl)
    obtain ⟨x2, rfl, i2⟩ := open_cell_int (isSome_at (j := 2) hlen (by simp)) (by simpa [Tryd.cellsInt] using hg 2 _ rfl)
    obtain ⟨s3, h3, i3⟩ := open_cells_six (isSome_at (j := 3) hlen (by simp)) (by simpa [Tryd.cellsSix] using hg 3 _ rfl)
    obtain ⟨x4, rfl, i4⟩ := open_cell_int (isSome_at (j := 4) hlen (by simp)) (by simpa [Tryd.cellsInt] using hg 4 _ rfl)
    refine ⟨⟨x0, s1, x2, s3, x4⟩, ?_, i0, i1, i2, i3, i4⟩
    have e1 : [c1, c2, c3, c4, c5, c6, c7, c8] = s1.cells.toList := h1
    have e3 : [c10, c11, c12, c13, c14, c15, c16, c17] = s3.cells.toList := h3
    simp only [Six.cells, List.cons.injEq, and_true] at e1 e3
    obtain ⟨rfl, rfl, rfl, rfl, rfl, rfl, rfl, rfl⟩ := e1
    obtain ⟨rfl, rfl, rfl, rfl, rfl, rfl, rfl, rfl⟩ := e3
    rfl
set_option maxRecDepth 100000 in
theorem open_flow {v : Value} {d : DataW H} {p : List MemPlace} {base : Nat} (hv : Value.okWide Tryd.prog W .any base 47 v) (h : DataW.Trod enc Tryd.prog W 0 (fun _ => true) true 47 v d p) : ∃ f : Flow, v = f.v ∧ f.Is := by
  obtain ⟨cs, rfl, hsz⟩ := okWide_struct Tryd.underlying47 hv
  obtain ⟨fuel, hf⟩ := h
  obtain ⟨s, hs, hi⟩ := open_cells_flow rfl hf
  refine ⟨s, ?_, hi⟩
  have : cs.toList = s.cells.toList := by simpa [Value.cells] using hs
  rw [Array.toList_inj.1 this]

/-- Servers that came in. -/
def IsBacks (w : World) (a : Option Addr) (n c : Nat) (bs : List Pl.Back) : Prop := Backs w a n bs ∧ n ≤ c ∧ c ≤ maxLen
instance : Inhabited Pl.Back := ⟨Pl.back0⟩
set_option maxRecDepth 100000 in
theorem open_backs {a : Option Addr} {n c : Nat} {d : DataW H} {p : List MemPlace}
    (h : DataW.Trod enc Tryd.prog W 0 (fun _ => true) true 24 (.slice a n c) d p) : ∃ bs, IsBacks W a n c bs := by
  obtain ⟨fuel, hf⟩ := h
  rcases Go.Deep.open_slice Tryd.underlying24 hf with ⟨hcs, _⟩ | ⟨x, l, c', m, n', D, P, hcs, _, hl, hm, hmm, _, hx⟩
  · simp [Value.cells] at hcs
    obtain ⟨rfl, rfl, rfl⟩ := hcs
    exact ⟨[], ⟨rfl, .inl rfl⟩, Nat.le_refl _, Nat.zero_le _⟩
  · simp [Value.cells] at hcs
    obtain ⟨rfl, rfl, rfl⟩ := hcs
    simp only [if_true] at hmm
    subst hmm
    obtain ⟨b, off, spot⟩ := x
    have key : ∀ i, i < m → ∃ y : Pl.Back, ∀ j, j < 6 → W.cell? ((Addr.mk b off spot).add (i * 6 + j)) = (#[.int .i64 y.id, .int .i64 y.addr, .int .i64 y.door, .int .i64 y.weight, .bool y.up, .bool y.drain] : Array Value)[j]? := fun i hi => by
      obtain ⟨cs', hc', ht⟩ := hx i hi
      rw [Tryd.cellsBack] at hc'
      obtain ⟨xs, q, _, _, hl', hlen, hg⟩ := DataW.trod_struct Tryd.underlying95 ht
      obtain ⟨_, hcl, hat⟩ := World.cells?_some hc'
      match cs', hl'.trans Tryd.cellsBack with
      | [c0, c1, c2, c3, c4, c5], _ =>
        obtain ⟨x0, rfl, _⟩ := open_cell_int (isSome_at (j := 0) hlen (by simp)) (by simpa [Tryd.cellsInt] using hg 0 _ rfl)
        obtain ⟨x1, rfl, _⟩ := open_cell_int (isSome_at (j := 1) hlen (by simp)) (by simpa [Tryd.cellsInt] using hg 1 _ rfl)
        obtain ⟨x2, rfl, _⟩ := open_cell_int (isSome_at (j := 2) hlen (by simp)) (by simpa [Tryd.cellsInt] using hg 2 _ rfl)
        obtain ⟨x3, rfl, _⟩ := open_cell_int (isSome_at (j := 3) hlen (by simp)) (by simpa [Tryd.cellsInt] using hg 3 _ rfl)
        obtain ⟨x4, rfl⟩ := open_cell_bool (isSome_at (j := 4) hlen (by simp)) (by simpa [Tryd.cellsBool] using hg 4 _ rfl)
        obtain ⟨x5, rfl⟩ := open_cell_bool (isSome_at (j := 5) hlen (by simp)) (by simpa [Tryd.cellsBool] using hg 5 _ rfl)
        refine ⟨⟨x0, x1, x2, x3, x4, x5⟩, fun j hj => ?_⟩
        rw [← Go.Deep.add_add, hat j hj]
        simp
    obtain ⟨F, hF⟩ := Go.Deep.choose_lt key
    refine ⟨(List.range n).map F, ⟨by simp, ?_⟩, hl, hm⟩
    rcases Nat.eq_zero_or_pos n with h0 | h0
    · exact .inl h0
    · refine .inr ?_
      have hspot : spot = none := by
        have := hF 0 (by omega) 0 (by omega)
        simpa [Addr.add] using World.cell?_spot this
      subst hspot
      refine ⟨b, off, rfl, fun i hi => ?_⟩
      have e : ((List.range n).map F).getD i Pl.back0 = F i := by simp [List.getD, hi]
      rw [e]
      have q := hF i (by omega)
      refine ⟨?_, ?_, ?_, ?_, ?_, ?_⟩
      · have := q 0 (by omega); rw [Addr.add_lit] at this; exact this
      · have := q 1 (by omega); rw [Addr.add_lit] at this; exact this
      · have := q 2 (by omega); rw [Addr.add_lit] at this; exact this
      · have := q 3 (by omega); rw [Addr.add_lit] at this; exact this
      · have := q 4 (by omega); rw [Addr.add_lit] at this; exact this
      · have := q 5 (by omega); rw [Addr.add_lit] at this; exact this
end
end Go.Proofs.YtefdhlmljocnkaaDoor
/- What an argument is, once it is read: the steps of a script on ports, binds. Conditions: as each lemma states them. -/
namespace Go.Proofs.YtefdhlmljocnkaaDoor
open Go.ChangeShapes Go.WideShapes Go.ChangeAt Go.RowKit
/-- A step. -/
structure Stp where
  what : Int
  who : Six
  flow : Flow
  n : Int
  m : Int
  now : Int
def Stp.cells (s : Stp) : Array Value := #[.int .i64 s.what, .int .i64 s.who.x0, .int .i64 s.who.x1, .int .i64 s.who.x2, .int .i64 s.who.x3, .int .i64 s.who.x4, .int .i64 s.who.x5, .int .i64 s.who.x6, .int .i64 s.who.x7, .int .i64 s.flow.kind, .int .i64 s.flow.client.x0, .int .i64 s.flow.client.x1, .int .i64 s.flow.client.x2, .int .i64 s.flow.client.x3, .int .i64 s.flow.client.x4, .int .i64 s.flow.client.x5, .int .i64 s.flow.client.x6, .int .i64 s.flow.client.x7, .int .i64 s.flow.port, .int .i64 s.flow.dst.x0, .int .i64 s.flow.dst.x1, .int .i64 s.flow.dst.x2, .int .i64 s.flow.dst.x3, .int .i64 s.flow.dst.x4, .int .i64 s.flow.dst.x5, .int .i64 s.flow.dst.x6, .int .i64 s.flow.dst.x7, .int .i64 s.flow.door, .int .i64 s.n, .int .i64 s.m, .int .i64 s.now]
structure Stp.Is (s : Stp) : Prop where
  what : IsInt s.what
  who : s.who.Is
  flow : s.flow.Is
  n : IsInt s.n
  m : IsInt s.m
  now : IsInt s.now
theorem Stp.cells_one (s : Stp) : s.cells.all (·.oneCell') = true := by simp [Stp.cells, Value.oneCell']
def KT : Kin Stp := ⟨fun s => s.cells.toList, 31, by decide, fun _ => rfl, fun s u hu => (Array.all_eq_true_iff_forall_mem.1 s.cells_one) u (by simpa using hu)⟩
/-- Steps that came in. -/
def IsSteps (w : World) (a : Option Addr) (n c : Nat) (l : List Stp) : Prop := KT.See w a n l ∧ n ≤ c ∧ c ≤ maxLen ∧ ∀ s ∈ l, s.Is
section
variable {H : Type} {enc : TypeId × Value → H} {W : World}
theorem Tryd.cellsStp : Tryd.prog.cellsOf 49 = 31 := by kernel_rfl
set_option maxRecDepth 100000 in
theorem open_steps {a : Option Addr} {n c : Nat} {d : DataW H} {p : List MemPlace}
    (h : DataW.Trod enc Tryd.prog W 0 (fun _ => true) true 40 (.slice a n c) d p) : ∃ l, IsSteps W a n c l := by
  obtain ⟨fuel, hf⟩ := h
  rcases Go.Deep.open_slice Tryd.underlying40 hf with ⟨hcs, _⟩ | ⟨x, l, c', m, n', D, P, hcs, _, hl, hm, hmm, _, hx⟩
  · simp [Value.cells] at hcs
    obtain ⟨rfl, rfl, rfl⟩ := hcs
    exact ⟨[], Kin.See.nil _ _, Nat.le_refl _, Nat.zero_le _, fun s h => by cases h⟩
  · simp [Value.cells] at hcs
    obtain ⟨rfl, rfl, rfl⟩ := hcs
    simp only [if_true] at hmm
    subst hmm
    obtain ⟨b, off, spot⟩ := x
    have key : ∀ i, i < m → ∃ y : Stp, y.Is ∧ ∀ j, j < 31 → W.cell? ((Addr.mk b off spot).add (i * 31 + j)) = y.cells[j]? := fun i hi => by
      obtain ⟨cs', hc', ht⟩ := hx i hi
      rw [Tryd.cellsStp] at hc'
      obtain ⟨xs, q, _, _, hl', hlen, hg⟩ := DataW.trod_struct Tryd.underlying49 ht
      obtain ⟨_, hcl, hat⟩ := World.cells?_some hc'
      match cs', hl'.trans Tryd.cellsStp with
      | [c0, c1, c2, c3, c4, c5, c6, c7, c8, c9, c10, c11, c12, c13, c14, c15, c16, c17, c18, c19, c20, c21, c22, c23, c24, c25, c26, c27, c28, c29, c30], _ =>
        obtain ⟨x0, rfl, i0⟩ := open_cell_int (isSome_at (j := 0) hlen (by simp)) (by simpa [Tryd.cellsInt] using hg 0 _ rfl)
        obtain ⟨s1, h1, i1⟩ := open_cells_six (isSome_at (j := 1) hlen (by simp)) (by simpa [Tryd.cellsSix] using hg 1 _ rfl)
        obtain ⟨f2, h2, i2⟩ := open_cells_flow (isSome_at (j := 2) hlen (by simp)) (by simpa [Tryd.cellsFlow] using hg 2 _ rfl)
        obtain ⟨x3, rfl, i3⟩ := open_cell_int (isSome_at (j := 3) hlen (by simp)) (by simpa [Tryd.cellsInt] using hg 3 _ rfl)
        obtain ⟨x4, rfl, i4⟩ := open_cell_int (isSome_at (j := 4) hlen (by simp)) (by simpa [Tryd.cellsInt] using hg 4 _ rfl)
        obtain ⟨x5, rfl, i5⟩ := open_cell_int (isSome_at (j := 5) hlen (by simp)) (by simpa [Tryd.cellsInt] using hg 5 _ rfl)
        refine ⟨⟨x0, s1, f2, x3, x4, x5⟩, ⟨i0, i1, i2, i3, i4, i5⟩, fun j hj => ?_⟩
        have e1 : [c1, c2, c3, c4, c5, c6, c7, c8] = s1.cells.toList := h1
        have e2 : [c9, c10, c11, c12, c13, c14, c15, c16, c17, c18, c19, c20, c21, c22, c23, c24, c25, c26, c27] = f2.cells.toList := h2
        simp only [Six.cells, Flow.cells, List.cons.injEq, and_true] at e1 e2
        obtain ⟨rfl, rfl, rfl, rfl, rfl, rfl, rfl, rfl⟩ := e1
        obtain ⟨rfl, rfl, rfl, rfl, rfl, rfl, rfl, rfl, rfl, rfl, rfl, rfl, rfl, rfl, rfl, rfl, rfl, rfl, rfl⟩ := e2
        rw [← Go.Deep.add_add, hat j hj]
        simp [Stp.cells]
    have key' : ∀ i, i < m → ∃ y : Stp, y.Is ∧ ∀ j, j < 31 → W.cell? ((Addr.mk b off spot).add (i * 31 + j)) = y.cells[j]? := key
    obtain ⟨F, hF⟩ : ∃ F : Nat → Stp, ∀ i, i < m → (F i).Is ∧ ∀ j, j < 31 → W.cell? ((Addr.mk b off spot).add (i * 31 + j)) = (F i).cells[j]? :=
      ⟨fun i => if h : i < m then (key' i h).choose else ⟨0, ⟨0, 0, 0, 0, 0, 0, 0, 0⟩, ⟨0, ⟨0, 0, 0, 0, 0, 0, 0, 0⟩, 0, ⟨0, 0, 0, 0, 0, 0, 0, 0⟩, 0⟩, 0, 0, 0⟩, fun i hi => by
        simp only [dif_pos hi]
        exact (key' i hi).choose_spec⟩
    refine ⟨(List.range n).map F, ⟨by simp, ?_⟩, hl, hm, fun s hs => ?_⟩
    · rcases Nat.eq_zero_or_pos n with h0 | h0
      · exact .inl h0
      · refine .inr ?_
        have hspot : spot = none := by
          have := (hF 0 (by omega)).2 0 (by omega)
          simpa [Addr.add] using World.cell?_spot this
        subst hspot
        refine ⟨b, off, rfl, fun i x hi r u hu => ?_⟩
        obtain ⟨hi', hx⟩ := List.getElem?_eq_some_iff.1 hi
        have hi'' : i < n := by simpa using hi'
        have hr : r < 31 := by
          have h1 := (List.getElem?_eq_some_iff.1 hu).1
          have h2 : (KT.f x).length = 31 := KT.len x
          omega
        have e : x = F i := by rw [← hx]; simp
        subst e
        have := (hF i (by omega)).2 r hr
        have hu' : (F i).cells.toList[r]? = some u := hu
        rw [Array.getElem?_toList] at hu'
        rw [hu'] at this
        rw [← this, Addr.add_mid, Nat.add_assoc]
        rfl
    · obtain ⟨i, hi, rfl⟩ := List.mem_map.1 hs
      exact (hF i (by have : i < n := by simpa using hi
                      omega)).1
end
end Go.Proofs.YtefdhlmljocnkaaDoor
/- A step of a script, loaded and stored whole. Conditions: as each lemma states them. -/
namespace Go.Proofs.YtefdhlmljocnkaaDoor
open Go.RowKit
theorem Tryd.sizeStp : (Tryd.prog.info? 49).map (·.size) = some 31 := by kernel_rfl
theorem Kin.See.stp {w : World} {b off n : Nat} {xs : List Stp} (h : KT.See w (some ⟨b, off, none⟩) n xs) {i : Nat} {s : Stp} (hi : xs[i]? = some s) :
    (Instr.loadAt 49 (.pointer (some ⟨b, off + i * 31, none⟩))).run Tryd.prog w = .ok (.agg s.cells) w := by
  have hn : 0 < n := by
    have := (List.getElem?_eq_some_iff.1 hi).1
    rw [h.1] at this
    omega
  rcases h.2 with h0 | ⟨b', off', hb, hc⟩
  · omega
  · cases hb
    have := run_loadAt_mid (P := Tryd.prog) w b (off + i * 31) 49 s.cells.toList _ (fun j v hv => hc i s hi j v hv) Tryd.underlying49 rfl Tryd.sizeStp
    rw [Array.toArray_toList] at this
    exact this
section
variable {w : World} {g : Nat} {t : TypeId} {s : Stp}
theorem Blk.stpSet (h : Blk w g t #[.int .i64 0, .int .i64 0, .int .i64 0, .int .i64 0, .int .i64 0, .int .i64 0, .int .i64 0, .int .i64 0, .int .i64 0, .int .i64 0, .int .i64 0, .int .i64 0, .int .i64 0, .int .i64 0, .int .i64 0, .int .i64 0, .int .i64 0, .int .i64 0, .int .i64 0, .int .i64 0, .int .i64 0, .int .i64 0, .int .i64 0, .int .i64 0, .int .i64 0, .int .i64 0, .int .i64 0, .int .i64 0, .int .i64 0, .int .i64 0, .int .i64 0]) (s : Stp) : (Instr.storeAt 49 (.pointer (some ⟨g, 0, none⟩)) (.agg s.cells)).run Tryd.prog w = .ok () (w.setRow g s.cells) :=
  h.store (ty := 49) (cs := s.cells) rfl Tryd.sizeStp s.cells_one
theorem Blk.stpWho (h : Blk w g t s.cells) : (Instr.loadAt 23 (.pointer (some ⟨g, 1, none⟩))).run Tryd.prog w = .ok (.agg s.who.cells) w :=
  h.six 1 s.who fun j hj => by
    have h : j = 0 ∨ j = 1 ∨ j = 2 ∨ j = 3 ∨ j = 4 ∨ j = 5 ∨ j = 6 ∨ j = 7 := by omega
    rcases h with rfl | rfl | rfl | rfl | rfl | rfl | rfl | rfl <;> rfl
theorem Blk.stpFlow (h : Blk w g t s.cells) : (Instr.loadAt 47 (.pointer (some ⟨g, 9, none⟩))).run Tryd.prog w = .ok (.agg s.flow.cells) w := by
  have := run_loadAt_mid (P := Tryd.prog) w g 9 47 s.flow.cells.toList _ (fun j v hv => by
    rw [Array.getElem?_toList] at hv
    have hj : j < 19 := (Array.getElem?_eq_some_iff.1 hv).1
    rw [h.cells, ← hv]
    have h : j = 0 ∨ j = 1 ∨ j = 2 ∨ j = 3 ∨ j = 4 ∨ j = 5 ∨ j = 6 ∨ j = 7 ∨ j = 8 ∨ j = 9 ∨ j = 10 ∨ j = 11 ∨ j = 12 ∨ j = 13 ∨ j = 14 ∨ j = 15 ∨ j = 16 ∨ j = 17 ∨ j = 18 := by omega
    rcases h with rfl | rfl | rfl | rfl | rfl | rfl | rfl | rfl | rfl | rfl | rfl | rfl | rfl | rfl | rfl | rfl | rfl | rfl | rfl <;> rfl) Tryd.underlying47 rfl Tryd.sizeFlow
  rw [Array.toArray_toList] at this
  exact this
theorem Blk.stpNums (h : Blk w g t s.cells) : w.cell? ⟨g, 0, none⟩ = some (.int .i64 s.what) ∧ w.cell? ⟨g, 28, none⟩ = some (.int .i64 s.n) ∧ w.cell? ⟨g, 29, none⟩ = some (.int .i64 s.m) ∧ w.cell? ⟨g, 30, none⟩ = some (.int .i64 s.now) :=
  ⟨h.cells 0, h.cells 28, h.cells 29, h.cells 30⟩
end
end Go.Proofs.YtefdhlmljocnkaaDoor
/- errors.As at a target that is an Errno, plain.Told and gangplanksame.Error: what they answer of nil and of an Errno. After the kit's worked toy 'toyas', turned to this program's types. Conditions: the variable errors.errorType holds the handle that the row lists. -/
namespace Go.Proofs.YtefdhlmljocnkaaDoor
open Go.RowKit Go.Extern.Stop Go.Stop Go.Extern

theorem Tryd.valueOfT (t : Addr) (w : World) : (ReflectliteValue.unpack (.iface 131 (.pointer (some t)))).run Tryd.prog w
    = .ok (.agg #[.pointer (some ⟨9, 131, none⟩), .pointer (some ⟨w.heap.size, 0, none⟩), .int .u64 150]) (w.alloc (.cells #[.pointer (some t)] 131)) := by kernel_rfl
theorem Tryd.typeT (a : Addr) (w : World) : (ReflectliteValue.methodAny (ReflectliteValue.valueError "reflectlite.Value.Type" 0) (fun t _ _ _ => ReflectliteType.toType t) #[.agg #[.pointer (some ⟨9, 131, none⟩), .pointer (some a), .int .u64 150]]).run Tryd.prog w
    = .ok (.iface 185 (.agg #[.pointer (some ⟨9, 131, none⟩)])) w := by kernel_rfl
theorem Tryd.methodKind (h : Value) (w : World) : (Go.method 377 185 (.agg #[h]) "Kind").run Tryd.prog w = .ok (163, h) w := by kernel_rfl
theorem Tryd.kindT (w : World) : ((ReflectliteType.abiMethod fun t => (fun a : Nat => Value.int IntKind.u8 (a : Int)) <$> Rtype.kind t) #[.pointer (some ⟨9, 131, none⟩)]).run Tryd.prog w = .ok (.int .u8 22) w := by kernel_rfl
theorem Tryd.kindE (w : World) : ((ReflectliteType.abiMethod fun t => (fun a : Nat => Value.int IntKind.u8 (a : Int)) <$> Rtype.kind t) #[.pointer (some ⟨9, 27, none⟩)]).run Tryd.prog w = .ok (.int .u8 2) w := by kernel_rfl
theorem Tryd.methodElem (h : Value) (w : World) : (Go.method 377 185 (.agg #[h]) "Elem").run Tryd.prog w = .ok (179, .agg #[h]) w := by kernel_rfl
theorem Tryd.methodImplements (h : Value) (w : World) : (Go.method 377 185 (.agg #[h]) "Implements").run Tryd.prog w = .ok (180, .agg #[h]) w := by kernel_rfl
theorem Tryd.methodAssignableTo (h : Value) (w : World) : (Go.method 377 185 (.agg #[h]) "AssignableTo").run Tryd.prog w = .ok (177, .agg #[h]) w := by kernel_rfl
theorem Tryd.elemT (w : World) : (ReflectliteType.method ReflectliteType.elem #[.agg #[.pointer (some ⟨9, 131, none⟩)]]).run Tryd.prog w = .ok (.iface 185 (.agg #[.pointer (some ⟨9, 27, none⟩)])) w := by kernel_rfl
theorem Tryd.implementsE (w : World) : (ReflectliteType.relation "Implements" ReflectliteType.implements_ #[.agg #[.pointer (some ⟨9, 27, none⟩)], .iface 185 (.agg #[.pointer (some ⟨9, 31, none⟩)])]).run Tryd.prog w = .ok (.bool true) w := by kernel_rfl
theorem Tryd.typeOfE (v : Value) (w : World) : (ReflectliteType.typeOf #[.iface 27 v]).run Tryd.prog w = .ok (.iface 185 (.agg #[.pointer (some ⟨9, 27, none⟩)])) w := by kernel_rfl
theorem Tryd.assignableE (w : World) : (ReflectliteType.relation "AssignableTo" ReflectliteType.assignableTo #[.agg #[.pointer (some ⟨9, 27, none⟩)], .iface 185 (.agg #[.pointer (some ⟨9, 27, none⟩)])]).run Tryd.prog w = .ok (.bool true) w := by kernel_rfl
theorem Tryd.valueOfE (n : Int) (w : World) : (ReflectliteValue.unpack (.iface 27 (.int .i64 n))).run Tryd.prog w
    = .ok (.agg #[.pointer (some ⟨9, 27, none⟩), .pointer (some ⟨w.heap.size, 0, none⟩), .int .u64 130]) (w.alloc (.cells #[.int .i64 n] 27)) := by kernel_rfl

/-! The entries that read or write memory. -/
theorem rlm (z : Sem Value) (f : TypeId → Addr → Nat → Nat → Sem Value) (v : Value) :
    ReflectliteValue.method z f #[v] = (do match ← ReflectliteValue.parts v with | none => z | some (t, a, fl) => f t a fl (fl % 32)) := rfl
theorem Tryd.partsT (a : Addr) (w : World) : (ReflectliteValue.parts (.agg #[.pointer (some ⟨9, 131, none⟩), .pointer (some a), .int .u64 150])).run Tryd.prog w = .ok (some (131, a, 150)) w := by kernel_rfl
/-- (Value).IsNil at the Value of a target that is not nil. -/
theorem Tryd.isNilT (a p : Addr) (W : World) (ha : W.cell? a = some (.pointer (some p))) :
    (ReflectliteValue.method (ReflectliteValue.valueError "reflectlite.Value.IsNil" 0) ReflectliteValue.isNil #[.agg #[.pointer (some ⟨9, 131, none⟩), .pointer (some a), .int .u64 150]]).run Tryd.prog W = .ok (.bool false) W := by
  rw [rlm]
  simp only [Sem.run_bind, Tryd.partsT, Result.andThen]
  simp [ReflectliteValue.isNil, loadVar, isAgg, underlying, Tryd.underlying131, ha, Result.andThen]
theorem Tryd.elemOfT (w : World) : (Rtype.elem? 131).run Tryd.prog w = .ok (some 27) w := by kernel_rfl
theorem Tryd.mkE (p : Addr) (w : World) : (ReflectliteValue.mk 27 p ReflectliteValue.flagAddr).run Tryd.prog w = .ok (.agg #[.pointer (some ⟨9, 27, none⟩), .pointer (some p), .int .u64 386]) w := by kernel_rfl
/-- (Value).Elem at the Value of the target: the Value of the variable that it points to. -/
theorem Tryd.elemVT (a p : Addr) (W : World) (ha : W.cell? a = some (.pointer (some p))) :
    (ReflectliteValue.method (ReflectliteValue.valueError "reflectlite.Value.Elem" 0) ReflectliteValue.elem #[.agg #[.pointer (some ⟨9, 131, none⟩), .pointer (some a), .int .u64 150]]).run Tryd.prog W
      = .ok (.agg #[.pointer (some ⟨9, 27, none⟩), .pointer (some p), .int .u64 386]) W := by
  rw [rlm]
  simp only [Sem.run_bind, Tryd.partsT, Result.andThen]
  simp [ReflectliteValue.elem, loadVar, isAgg, underlying, Tryd.underlying131, ha, Result.andThen, Tryd.elemOfT, Tryd.mkE]
theorem rls (v x : Value) : ReflectliteValue.set #[v, x] = (do
    let (some (dst, a, fl), some (src, b, _)) := (← ReflectliteValue.parts v, ← ReflectliteValue.parts x)
      | unsupported (.noEntry "extern/(internal/reflectlite.Value).Set.zeroValue")
    if fl / ReflectliteValue.flagAddr % 2 == 0 then unsupported (.noEntry "extern/(internal/reflectlite.Value).Set.unaddressable")
    let val ← loadVar src b
    if ← Rtype.directlyAssignable dst src then storeVar dst a val
    else if ← Rtype.implements dst src then
      if (← Rtype.kind src) == 20 then
        match val with
        | .nilIface => unsupported (.noEntry "extern/reflectlite: a nil value of one interface type handed on as a value of another")
        | _ => storeVar dst a val
      else storeVar dst a (.iface src val)
    else panicString ("reflectlite.Set: value of type " ++ (← Rtype.spelt src) ++ " is not assignable to type " ++ (← Rtype.spelt dst))
    pure (.tuple #[])) := rfl
theorem Tryd.partsEa (a : Addr) (w : World) : (ReflectliteValue.parts (.agg #[.pointer (some ⟨9, 27, none⟩), .pointer (some a), .int .u64 386])).run Tryd.prog w = .ok (some (27, a, 386)) w := by kernel_rfl
theorem Tryd.partsE (a : Addr) (w : World) : (ReflectliteValue.parts (.agg #[.pointer (some ⟨9, 27, none⟩), .pointer (some a), .int .u64 130])).run Tryd.prog w = .ok (some (27, a, 130)) w := by kernel_rfl
theorem Tryd.directE (w : World) : (Rtype.directlyAssignable 27 27).run Tryd.prog w = .ok true w := by kernel_rfl
theorem Tryd.sizeE (w : World) : (sizeOf 27).run Tryd.prog w = .ok 1 w := by kernel_rfl
/-- (Value).Set: the Errno at 'ta' gets what the Value's own variable 'b' holds. -/
theorem Tryd.setE (ta b : Addr) (n : Int) (old : Value) (W : World) (hb : W.cell? b = some (.int .i64 n)) (ht : W.cell? ta = some old) (hf : W.frozen? ta = false) :
    (ReflectliteValue.set #[.agg #[.pointer (some ⟨9, 27, none⟩), .pointer (some ta), .int .u64 386], .agg #[.pointer (some ⟨9, 27, none⟩), .pointer (some b), .int .u64 130]]).run Tryd.prog W
      = .ok (.tuple #[]) (W.setCell ta (.int .i64 n)) := by
  rw [rls]
  simp only [Sem.run_bind, Tryd.partsEa, Tryd.partsE, Result.andThen]
  simp [ReflectliteValue.flagAddr, loadVar, isAgg, underlying, Tryd.underlying27, hb, Result.andThen, Tryd.directE, storeVar, Value.cells, storeCells, Addr.add]
  rw [run_store Tryd.prog W ta _ _ (by rfl)]
  simp [ht, hf]

/-- What the handle's variable holds. -/
def Handle (w : World) : Prop := w.cell? ⟨0, 0, none⟩ = some (.iface 185 (.agg #[.pointer (some ⟨9, 31, none⟩)]))

set_option maxHeartbeats 4000000 in
theorem as_hit (n : Int) (t : Addr) (old : Value) (w : World) (hg : Handle w) (ht0 : w.cell? t = some old) (hf0 : w.frozen? t = false) :
    Calls Tryd.prog 66 #[.iface 27 (.int .i64 n), .iface 131 (.pointer (some t))] w fun ev w' => ev = .returned (.bool true) ∧ ∃ X : World, Below w.heap.size w X ∧ w' = X.setCell t (.int .i64 n) := by
  unfold Handle at hg
  have h6 := @run_callFunc_extern Tryd.prog 85 _ (fun args => ReflectliteValue.unpack (args.getD 0 (.tuple #[]))) Tryd.func85 (by kernel_rfl) (by kernel_rfl) (by kernel_rfl) (by kernel_rfl)
  have h7 := @run_callFunc_extern Tryd.prog 86 _ (ReflectliteValue.methodAny (ReflectliteValue.valueError "reflectlite.Value.Type" 0) (fun t _ _ _ => ReflectliteType.toType t)) Tryd.func86 (by kernel_rfl) (by kernel_rfl) (by kernel_rfl) (by kernel_rfl)
  have h8 := @run_callFunc_extern Tryd.prog 87 _ (ReflectliteValue.method (ReflectliteValue.valueError "reflectlite.Value.IsNil" 0) ReflectliteValue.isNil) Tryd.func87 (by kernel_rfl) (by kernel_rfl) (by kernel_rfl) (by kernel_rfl)
  have h27 := @run_callFunc_extern Tryd.prog 163 _ (ReflectliteType.abiMethod fun t => do pure (.int .u8 (← Rtype.kind t))) Tryd.func163 (by kernel_rfl) (by kernel_rfl) (by kernel_rfl) (by kernel_rfl)
  have h37 := @run_callFunc_extern Tryd.prog 179 _ (ReflectliteType.method ReflectliteType.elem) Tryd.func179 (by kernel_rfl) (by kernel_rfl) (by kernel_rfl) (by kernel_rfl)
  have h38 := @run_callFunc_extern Tryd.prog 180 _ (ReflectliteType.relation "Implements" ReflectliteType.implements_) Tryd.func180 (by kernel_rfl) (by kernel_rfl) (by kernel_rfl) (by kernel_rfl)
  have h10 := @run_callFunc_extern Tryd.prog 104 _ ReflectliteType.typeOf Tryd.func104 (by kernel_rfl) (by kernel_rfl) (by kernel_rfl) (by kernel_rfl)
  have h35 := @run_callFunc_extern Tryd.prog 177 _ (ReflectliteType.relation "AssignableTo" ReflectliteType.assignableTo) Tryd.func177 (by kernel_rfl) (by kernel_rfl) (by kernel_rfl) (by kernel_rfl)
  have h11 := @run_callFunc_extern Tryd.prog 105 _ (ReflectliteValue.method (ReflectliteValue.valueError "reflectlite.Value.Elem" 0) ReflectliteValue.elem) Tryd.func105 (by kernel_rfl) (by kernel_rfl) (by kernel_rfl) (by kernel_rfl)
  have h12 := @run_callFunc_extern Tryd.prog 106 _ ReflectliteValue.set Tryd.func106 (by kernel_rfl) (by kernel_rfl) (by kernel_rfl) (by kernel_rfl)
  have tO := Tryd.typeOfE
  have mA := Tryd.methodAssignableTo
  have a25 := Tryd.assignableE
  have v25 := Tryd.valueOfE
  have f6 := Tryd.valueOfT
  have f7 := Tryd.typeT
  have mK := Tryd.methodKind
  have mE := Tryd.methodElem
  have mI := Tryd.methodImplements
  have k27 := Tryd.kindT
  have k25 := Tryd.kindE
  have e27 := Tryd.elemT
  have i25 := Tryd.implementsE
  have n8 := Tryd.isNilT ⟨w.heap.size, 0, none⟩ t ((w.alloc (.cells #[.pointer (some t)] 131)).alloc (.cells #[.pointer (some ⟨9, 131, none⟩), .pointer (some ⟨w.heap.size, 0, none⟩), .int .u64 150] 163)) (by simp)
  have hlt : 0 < w.heap.size := by
    rcases Nat.lt_or_ge 0 w.heap.size with h | h
    · exact h
    · simp [World.cell?, Array.getElem?_eq_none h] at hg
  have hg2 : ((w.alloc (.cells #[.pointer (some t)] 131)).alloc (.cells #[.pointer (some ⟨9, 131, none⟩), .pointer (some ⟨w.heap.size, 0, none⟩), .int .u64 150] 163)).cell? ⟨0, 0, none⟩ = some (.iface 185 (.agg #[.pointer (some ⟨9, 31, none⟩)])) := by
    rw [World.cell?_alloc_lt _ _ ⟨0, 0, none⟩ (by simp), World.cell?_alloc_lt _ _ ⟨0, 0, none⟩ hlt]; exact hg
  have htl : t.block < w.heap.size := by
    rcases Nat.lt_or_ge t.block w.heap.size with h | h
    · exact h
    · simp [World.cell?, Array.getElem?_eq_none h] at ht0
  have el := Tryd.elemVT ⟨w.heap.size, 0, none⟩ t (((w.alloc (.cells #[.pointer (some t)] 131)).alloc (.cells #[.pointer (some ⟨9, 131, none⟩), .pointer (some ⟨w.heap.size, 0, none⟩), .int .u64 150] 163)).alloc (.cells #[.pointer (some ⟨9, 131, none⟩), .pointer (some ⟨w.heap.size, 0, none⟩), .int .u64 150] 163)) (by rw [World.cell?_alloc_lt _ _ ⟨w.heap.size, 0, none⟩ (by simp; omega)]; simp)
  have st := Tryd.setE t ⟨w.heap.size + 1 + 1 + 1, 0, none⟩ n old ((((w.alloc (.cells #[.pointer (some t)] 131)).alloc (.cells #[.pointer (some ⟨9, 131, none⟩), .pointer (some ⟨w.heap.size, 0, none⟩), .int .u64 150] 163)).alloc (.cells #[.pointer (some ⟨9, 131, none⟩), .pointer (some ⟨w.heap.size, 0, none⟩), .int .u64 150] 163)).alloc (.cells #[.int .i64 n] 27))
    (by rw [World.cell?_alloc_at _ _ _ _ (by simp)]; rfl)
    (by rw [World.cell?_alloc_lt _ _ t (by simp; omega), World.cell?_alloc_lt _ _ t (by simp; omega), World.cell?_alloc_lt _ _ t (by simp; omega), World.cell?_alloc_lt _ _ t htl]; exact ht0)
    (by rw [World.frozen?_alloc_old _ _ t (by simp; omega), World.frozen?_alloc_old _ _ t (by simp; omega), World.frozen?_alloc_old _ _ t (by simp; omega), World.frozen?_alloc_old _ _ t (Nat.ne_of_lt htl)]; exact hf0)
  go_enter Tryd.func66, Tryd.ntmps66
  go_wp2
  refine wp_loop_rounds 1 ?_
  rw [rounds_succ]
  go_wp2
  go_ret
  exact ⟨rfl, _, by go_grown, rfl⟩
end Go.Proofs.YtefdhlmljocnkaaDoor
/- plain.Told and gangplanksame.Error of nil and of an Errno. Conditions: the variable errors.errorType holds the handle that the row lists (Handle). -/
namespace Go.Proofs.YtefdhlmljocnkaaDoor
open Go.RowKit

theorem Handle.below {w w' : World} (h : Handle w) (hb : Below w.heap.size w w') : Handle w' := by
  unfold Handle at *
  rw [hb.cell (World.block_lt_of_cell? w _ h)]
  exact h

theorem told_nil (w : World) : Calls Tryd.prog 41 #[.nilIface] w fun e w' => e = .returned (.int .i64 0) ∧ w = w' := by
  go_enter Tryd.func41, Tryd.ntmps41
  go_wp2
  go_ret
  exact ⟨rfl, rfl⟩
theorem told_err (n : Int) (w : World) (hg : Handle w) : Calls Tryd.prog 41 #[errv n] w fun e w' => e = .returned (.int .i64 n) ∧ Below w.heap.size w w' := by
  have hb : Below w.heap.size w (w.alloc (.cells #[.int .i64 0] 27)) := by go_grown
  have H := Lib.hid (hg.below hb)
  have hc : (w.alloc (.cells #[.int .i64 0] 27)).cell? ⟨w.heap.size, 0, none⟩ = some (.int .i64 0) := by simp
  have hf : (w.alloc (.cells #[.int .i64 0] 27)).frozen? ⟨w.heap.size, 0, none⟩ = false := by simp
  have hz : w.heap.size < (w.alloc (.cells #[.int .i64 0] 27)).heap.size := by simp
  have HC := Lib.hid hc
  have HF := Lib.hid hf
  clear hg hc hf
  unfold errv
  go_enter Tryd.func41, Tryd.ntmps41
  go_wp2_with fail
  generalize w.alloc (.cells #[.int .i64 0] 27) = W1 at *
  with_reducible refine (as_hit n ⟨w.heap.size, 0, none⟩ _ W1 H.out HC.out HF.out).mono ?_
  rintro e w' ⟨rfl, X, hX, rfl⟩
  have hx : X.cell? ⟨w.heap.size, 0, none⟩ = some (.int .i64 0) := (hX.cell (p := ⟨w.heap.size, 0, none⟩) hz).trans HC.out
  have hn : (X.setCell ⟨w.heap.size, 0, none⟩ (.int .i64 n)).cell? ⟨w.heap.size, 0, none⟩ = some (.int .i64 n) := by simp [go_sem, hx]
  have B : Below w.heap.size w (X.setCell ⟨w.heap.size, 0, none⟩ (.int .i64 n)) := (hb.trans (hX.mono hb.size)).setCell (p := ⟨w.heap.size, 0, none⟩) (Nat.le_refl _) _
  generalize X.setCell ⟨w.heap.size, 0, none⟩ (.int .i64 n) = W2 at *
  go_wp2_with fail
  go_ret
  exact ⟨rfl, B⟩

theorem error_nil (m : Int) (w : World) : Calls Tryd.prog 8 #[.nilIface, .int .i64 m] w fun e w' => e = .returned (.bool ((0 : Int) == m)) ∧ w = w' := by
  go_enter Tryd.func8, Tryd.ntmps8
  go_wp2_with fail
  refine (told_nil w).mono ?_
  rintro e w' ⟨rfl, rfl⟩
  go_wp2_with fail
  go_ret
  exact ⟨rfl, rfl⟩
theorem error_err (n m : Int) (w : World) (hg : Handle w) : Calls Tryd.prog 8 #[errv n, .int .i64 m] w fun e w' => e = .returned (.bool (n == m)) ∧ Below w.heap.size w w' := by
  have H := Lib.hid hg
  clear hg
  unfold errv
  go_enter Tryd.func8, Tryd.ntmps8
  go_wp2_with fail
  refine (told_err n w H.out).mono ?_
  rintro e w' ⟨rfl, hb⟩
  go_wp2_with fail
  go_ret
  exact ⟨rfl, hb⟩
end Go.Proofs.YtefdhlmljocnkaaDoor
/- Errors by number, told alike: what the statements compare. Conditions: Handle, where an error is looked at. -/
namespace Go.Proofs.YtefdhlmljocnkaaDoor
open Go.RowKit
theorem err_same (q : Int) (w : World) (hg : Handle w) : Calls Tryd.prog 8 #[erv q, .int .i64 q] w fun e w' => e = .returned (.bool true) ∧ Below w.heap.size w w' := by
  by_cases h : q = 0
  · subst h
    rw [erv_zero]
    exact (error_nil 0 w).mono fun _ _ ⟨he, hw⟩ => ⟨he, by rw [← hw]; exact Below.refl _ _⟩
  · rw [erv_ne h]
    exact (error_err q q w hg).mono fun _ _ ⟨he, hb⟩ => ⟨by rw [he]; simp, hb⟩
end Go.Proofs.YtefdhlmljocnkaaDoor
/- What the condition of a tied row gives: the handle in errors.errorType; a world that meets it. After the kit's worked toy 'toyas'. Conditions: as each lemma states them. -/
namespace Go.Proofs.YtefdhlmljocnkaaDoor
open Go.ChangeShapes Go.WideShapes Go.ChangeAt Go.RowKit

def laid : List (String × DataW Unit) := [("errors.errorType", Rows.laid_errors_errorType)]
theorem Tryd.et : Tryd.prog.globalNamed "errors.errorType" = some 0 := by kernel_rfl
theorem Tryd.rt : (Tryd.prog.cutTypes.find? (·.1 == "internal/reflectlite.rtype")).map (·.2) = some 185 := by kernel_rfl
theorem Tryd.oneRow : ((List.range 277).filter fun t => Tryd.prog.rowNamed t [101, 114, 114, 111, 114]) = [31] := by kernel_rfl
theorem Tryd.sizeTypes : Tryd.prog.types.size = 277 := by kernel_rfl

theorem handle_of_laid {W : World} (h : laidMetH Tryd.prog laid W) : Handle W := by
  have h' : laidMet Tryd.prog [] W ∧ handlesMet Tryd.prog laid W := h
  obtain ⟨name, u, ty, e1, e2, e3, e4, e5⟩ := h'.2 _ (List.mem_singleton.2 rfl)
  have en : name = [101, 114, 114, 111, 114] := (Option.some.inj e1).symm
  subst en
  obtain rfl := Option.some.inj (Tryd.rt.symm.trans e2)
  have hm : ty ∈ (List.range 277).filter fun t => Tryd.prog.rowNamed t [101, 114, 114, 111, 114] := List.mem_filter.2 ⟨List.mem_range.2 (by rw [← Tryd.sizeTypes]; exact e3), e4⟩
  rw [Tryd.oneRow] at hm
  obtain rfl := List.mem_singleton.1 hm
  have hh : typeHandle Tryd.prog 31 = .pointer (some ⟨9, 31, none⟩) := by kernel_rfl
  rw [hh] at e5
  have := World.var?_cell Tryd.et e5 0
  unfold Handle
  simpa using this

/-- A world that meets the condition: the settled one, the variable's cell laid. -/
noncomputable def laidWorld (os : Os) : World :=
  let w0 := World.holding Tryd.prog os ⟨#[], #[], []⟩
  { w0 with heap := w0.heap.modify 0 fun
      | .cells _ t frozen => .cells #[.iface 185 (.agg #[.pointer (some ⟨9, 31, none⟩)])] t frozen
      | o => o }
theorem laidWorld_met (os : Os) (args : Array Value) : laidMetH Tryd.prog laid ((laidWorld os).forCall (fun _ _ => 0) ⟨#[], args, []⟩).memory :=
  laidMetH_of_parts (laidMet_nil _ _) (by kernel_rfl)
theorem vars_nil {H : Type} {enc : TypeId × Value → H} {W : World} {gs : List (DataW H)} {q : List MemPlace} (hV : DataW.TrodVars enc Tryd.prog W (fun _ => true) [] gs q) : gs = [] ∧ q = [] := by
  cases gs with
  | nil => exact ⟨rfl, hV⟩
  | cons g r => exact absurd hV (by intro h; cases h)
end Go.Proofs.YtefdhlmljocnkaaDoor
namespace Go.Proofs.YtefdhlmljocnkaaDoor.bindPlays
open Go.ChangeShapes Go.WideShapes Go.ChangeAt Go.RowKit
/-- Between two steps: both tables hold the same. -/
structure BP (w0 w : World) (G : TG) (g : RG) (b n : Nat) (v : Value) (s : PS) (B : List Bd) : Prop where
  tb : TB w G s B
  rt : RT w g b v s B
  newG : ∀ x ∈ G.all, w0.heap.size ≤ x ∧ x < b
  newR : ∀ x ∈ g.all, w0.heap.size ≤ x
  dis : ∀ x ∈ G.all, x ∉ g.all
  b0 : w0.heap.size ≤ b
  ext : Below w0.heap.size w0 w
variable {w0 w w' w'' : World} {G : TG} {g : RG} {b n : Nat} {v v' : Value} {s s' : PS} {B B' : List Bd}
theorem BP.size (h : BP w0 w G g b n v s B) : w0.heap.size ≤ w.heap.size := h.ext.size
theorem BP.grow (h : BP w0 w G g b n v s B) (e : Ext w w') : BP w0 w' G g b n v s B := ⟨h.tb.ext e, h.rt.ext e, h.newG, h.newR, h.dis, h.b0, h.ext.trans (e.mono h.size)⟩
theorem BP.len (h : BP w0 w G g b n v s B) : B.length ≤ 128 := by
  obtain ⟨l, cF, cN, ht, _⟩ := h.tb.ex
  exact (Inv.range h.tb.inv.toInv0 ht.prt.n1).2
theorem mut_all {x : Nat} (h : x ∈ G.mut) : x ∈ G.all := by simp [TG.mut] at h; simp [TG.all]; omega
theorem rmut_all {x : Nat} (h : x ∈ [g.gR, g.gW, g.gT]) : x ∈ g.all := by simp at h; simp [RG.all]; omega
/-- The document's table turns: the other one stands. -/
theorem BP.left (h : BP w0 w G g b n v s B) (k : Kp [g.gR, g.gW, g.gT] w w') : TB w' G s B ∧ Below w0.heap.size w0 w' :=
  ⟨h.tb.kp k fun x hx hm => h.dis x hx (rmut_all hm), Below.kp h.ext k h.size fun x hx => h.newR x (rmut_all hx)⟩
theorem BP.leftV (h : BP w0 w G g b n v s B) (k : Kp v.ownBlock.toList w w') : TB w' G s B ∧ Below w0.heap.size w0 w' :=
  ⟨h.tb.kp k fun x hx hm => by have := (h.rt.own.lt x (by simpa using hm)).1; have := (h.newG x hx).2; omega, Below.kp h.ext k h.size fun x hx => by have := (h.rt.own.lt x (by simpa using hx)).1; have := h.b0; omega⟩
/-- Then the other one turns, too. -/
theorem BP.turn (h : BP w0 w G g b n v s B) (r : RT w' g b v' s' B') (t : TB w'' G s' B') (k : Kp G.mut w' w'') (e : Below w0.heap.size w0 w') (hz : w0.heap.size ≤ w'.heap.size) : BP w0 w'' G g b n v' s' B' :=
  ⟨t, r.kp k (fun x hx hm => h.dis x (mut_all hm) hx) (fun x hx hm => by have := (r.own.lt x hx).1; have := (h.newG x (mut_all hm)).2; omega), h.newG, h.newR, h.dis, h.b0, Below.kp e k hz fun x hx => (h.newG x (mut_all hx)).1⟩
theorem flowE_bFindQ (f : Flow) (B : List Bd) : (flowE f = 1 ∧ okF f = false ∧ bFindQ f B = 1 ∧ bFind f B = zeroBd) ∨ (flowE f = 0 ∧ okF f = true) := by
  unfold flowE bFindQ bFind
  cases h : okF f
  · exact .inl ⟨rfl, rfl, rfl, rfl⟩
  · exact .inr ⟨rfl, rfl⟩
theorem expire_yes (G : TG) (s : PS) (B : List Bd) (now : Int) (w : World) (h : TB w G s B) (hn : okT now = true) :
    Calls Tryd.prog 23 #[.pointer (some ⟨G.gT, 0, none⟩), .int .i64 now] w fun e w' => ∃ v, e = .returned (.tuple #[v, erv 0]) ∧ KB.Own 53 w' w.heap.size v (outB now B) ∧ TB w' G (s.backs (outB now B)) (restB now B) ∧ Kp G.mut w w' := by
  have := expire_any G s B now w h
  simp only [hn, if_true] at this
  exact this
theorem expire_no (G : TG) (s : PS) (B : List Bd) (now : Int) (w : World) (h : TB w G s B) (hn : okT now = false) :
    Calls Tryd.prog 23 #[.pointer (some ⟨G.gT, 0, none⟩), .int .i64 now] w fun e w' => ∃ v, e = .returned (.tuple #[v, erv 1]) ∧ KB.Own 53 w' w.heap.size v [] ∧ TB w' G s B ∧ Kp G.mut w w' := by
  have := expire_any G s B now w h
  simp only [hn, Bool.false_eq_true, if_false] at this
  exact this
set_option maxRecDepth 100000 in
set_option maxHeartbeats 8000000 in
theorem walk (x0 : Int) (a1 : Option Addr) (n1 c1 : Nat) (l1 : List Stp) (w : World) (hg : Handle w) (w0 : IsInt x0) (w1 : IsSteps w a1 n1 c1 l1) :
    Calls Tryd.prog 4 #[.int .i64 x0, .slice a1 n1 c1] w fun e w' => e = .returned (.bool true) ∧ Below w.heap.size w w' := by
  obtain ⟨hl, hnc, hcm, his⟩ := w1
  have HL := Lib.hid hl
  have HI := Lib.hid his
  have HG := Lib.hid hg
  clear hl his hg
  go_enter Tryd.func4, Tryd.ntmps4
  go_wp2_with fail
  by_cases hx : x0 < 1 ∨ 16 < x0
  · refine (bnew_no x0 w hx).mono ?_
    rintro e W6 ⟨rfl, rfl⟩
    rw [← erv_ne (show (1 : Int) ≠ 0 by decide)]
    have HE := Lib.hid (err_same 1 W6 HG.out)
    by_cases h1 : x0 < 1
    · have d1 : decide (x0 < 1) = true := decide_eq_true h1
      clear hx
      go_wp2_with fail
      refine HE.out.mono ?_
      rintro e W7 ⟨rfl, b7⟩
      have HB := Lib.hid b7
      clear b7
      go_wp2_with fail
      go_ret
      exact ⟨rfl, HB.out⟩
    · have d1 : decide (x0 < 1) = false := decide_eq_false h1
      have d2 : decide (16 < x0) = true := decide_eq_true (by omega)
      clear hx
      go_wp2_with fail
      refine HE.out.mono ?_
      rintro e W7 ⟨rfl, b7⟩
      have HB := Lib.hid b7
      clear b7
      go_wp2_with fail
      go_ret
      exact ⟨rfl, HB.out⟩
  obtain ⟨n, rfl⟩ : ∃ n : Nat, x0 = (n : Int) := ⟨x0.toNat, by omega⟩
  have hn0 : 1 ≤ n := by omega
  have hn1 : n ≤ 16 := by omega
  have dn1 : decide ((n : Int) < 1) = false := decide_eq_false (by omega)
  have dn2 : decide ((16 : Int) < (n : Int)) = false := decide_eq_false (by omega)
  clear hx
  refine (bnewT n w hn0 hn1).mono ?_
  rintro e W1 ⟨G, rfl, T1, E1, hz1⟩
  have HT1 := Lib.hid (And.intro T1 E1)
  have hlt1 := T1.lt
  clear T1 E1
  go_wp2_with fail
  refine (rnewT n W1 hn0 hn1).mono ?_
  rintro e W2 ⟨g, rfl, R2, E2, hz2⟩
  have hz12 := HT1.out.2.size
  have hz22 := E2.size
  have N2 : BP w W2 G g W2.heap.size n (.slice none 0 0) (PS.zero n) [] := ⟨HT1.out.1.ext E2, R2, fun x hx => ⟨hz1 x hx, by have := hlt1 x hx; omega⟩, fun x hx => by have := hz2 x hx; omega, fun x hx hm => by have := hlt1 x hx; have := hz2 x hm; omega, by omega, HT1.out.2.trans E2⟩
  generalize W2.heap.size = b at *
  clear R2 E2 HT1 dn1 dn2
  go_wp2_with fail
  go_loopw [8] (fun i wr => ∃ (k : Nat) (v : Value) (s : PS) (B : List Bd), k ≤ n1 ∧ k ≤ 60 ∧ i = .int .i64 k ∧ BP w wr G g b n v s B) (fun i _ => n1 - (intOf i).toNat)
  case atStart => exact ⟨0, _, PS.zero n, [], Nat.zero_le _, by omega, rfl, N2⟩
  case round =>
    clear N2
    obtain ⟨k, v, s, B, hk, hk8, rfl, N⟩ := hrel
    have HN := Lib.hid N
    by_cases hend : k = n1 ∨ k = 60
    · have hex := N.ext
      have hor : (decide ((k : Int) < (n1 : Int)) = false) ∨ (decide ((k : Int) < (n1 : Int)) = true ∧ decide ((k : Int) < 60) = false) := by
        rcases hend with h | h
        · exact .inl (decide_eq_false (by omega))
        · by_cases hkn : k = n1
          · exact .inl (decide_eq_false (by omega))
          · exact .inr ⟨decide_eq_true (by omega), decide_eq_false (by omega)⟩
      clear hend N
      rcases hor with d1 | ⟨d1, d2⟩
      case' inl => have d1' : decide (k < n1) = false := by simpa using d1
      case' inr =>
        have d1' : decide (k < n1) = true := by simpa using d1
        have d2' : decide (k < 60) = false := by simp at d2 ⊢; omega
      all_goals
        go_wp2_with fail
        go_ret
        exact ⟨rfl, hex⟩
    have hkn : k < n1 := by omega
    have hk80 : k < 60 := by omega
    clear hend
    obtain ⟨st0, hst0⟩ : ∃ st0, l1[k]? = some st0 := ⟨_, List.getElem?_eq_getElem (by rw [HL.out.1]; omega)⟩
    obtain ⟨ba, oa, rfl, _, _⟩ := HL.out.at N.ext (by omega)
    have hkz : (k : Int) < (n1 : Int) := by omega
    have hk80' : (k : Int) < 60 := by omega
    have lda := (HL.out.ext N.ext).stp hst0
    have KZ := Blk.new wr 49 #[.int .i64 0, .int .i64 0, .int .i64 0, .int .i64 0, .int .i64 0, .int .i64 0, .int .i64 0, .int .i64 0, .int .i64 0, .int .i64 0, .int .i64 0, .int .i64 0, .int .i64 0, .int .i64 0, .int .i64 0, .int .i64 0, .int .i64 0, .int .i64 0, .int .i64 0, .int .i64 0, .int .i64 0, .int .i64 0, .int .i64 0, .int .i64 0, .int .i64 0, .int .i64 0, .int .i64 0, .int .i64 0, .int .i64 0, .int .i64 0, .int .i64 0]
    have sta := KZ.stpSet st0
    have K5 := KZ.row st0.cells
    have E5 : Ext wr _ := ((Ext.refl wr).alloc (.cells #[.int .i64 0, .int .i64 0, .int .i64 0, .int .i64 0, .int .i64 0, .int .i64 0, .int .i64 0, .int .i64 0, .int .i64 0, .int .i64 0, .int .i64 0, .int .i64 0, .int .i64 0, .int .i64 0, .int .i64 0, .int .i64 0, .int .i64 0, .int .i64 0, .int .i64 0, .int .i64 0, .int .i64 0, .int .i64 0, .int .i64 0, .int .i64 0, .int .i64 0, .int .i64 0, .int .i64 0, .int .i64 0, .int .i64 0, .int .i64 0, .int .i64 0] 49)).row (k := wr.heap.size) (Nat.le_refl _) st0.cells
    have hbw := N.rt.base
    have hvl : ∀ x, v.ownBlock = some x → x < wr.heap.size := fun x hx => (N.rt.own.lt x hx).2
    clear KZ N hst0
    go_upto_region 13 with (first | ((apply load_by rfl _ _ rfl _ rfl); (focus (with_reducible assumption))) | ((apply store_by rfl _ _ _ rfl _ rfl); (focus (with_reducible assumption)); (focus rfl)))
    refine at_worldE (fun W => BP w W G g b n v s B ∧ Blk W wr.heap.size 49 st0.cells ∧ wr.heap.size < W.heap.size) ⟨HN.out.grow E5, K5, K5.lt⟩ ?_
    clear lda sta K5 E5
    rintro W6 ⟨N6, K6, hl6⟩
    generalize wr.heap.size = g9 at *
    have lf := K6.stpFlow
    have HN6 := Lib.hid (And.intro N6 K6)
    clear N6 K6
    go_wp2_with ((apply load_by rfl _ _ rfl _ rfl); (focus (with_reducible assumption)))
    refine (rflow_any st0.flow W6).mono ?_
    rintro e W7 ⟨rfl, E7⟩
    have HN7 := Lib.hid (And.intro (HN6.out.1.grow E7) (HN6.out.2.ext E7))
    have lf2 := (HN6.out.2.ext E7).stpFlow
    have hz7 := E7.size
    clear lf E7
    go_wp2_with ((apply load_by rfl _ _ rfl _ rfl); (focus (with_reducible assumption)))
    have HCK := Lib.hid (fun W => (show Calls Tryd.prog 16 #[st0.flow.v] W (fun e w' => e = .returned (erv (flowE st0.flow)) ∧ Ext W w') from by
      by_cases ho : okF st0.flow = true
      · rw [show flowE st0.flow = 0 from if_pos ho]
        exact bcheck_ok st0.flow W (okF_iff.1 ho)
      · rw [show flowE st0.flow = 1 from if_neg ho]
        exact bcheck_bad st0.flow W (fun h => ho (okF_iff.2 h))))
    refine (HCK.out W7).mono ?_
    rintro e W8 ⟨rfl, E8⟩
    have HN8 := Lib.hid (And.intro (HN7.out.1.grow E8) (HN7.out.2.ext E8))
    have hz8 := E8.size
    clear lf2 E8
    generalize hfe : flowE st0.flow = fe at *
    have HFE := Lib.hid hfe
    clear hfe
    go_wp2_with fail
    refine (err_same fe W8 (HG.out.below HN8.out.1.ext)).mono ?_
    rintro e W9 ⟨rfl, b9⟩
    have E9 : Ext W8 W9 := b9
    have HN9 := Lib.hid (And.intro (HN8.out.1.grow E9) (HN8.out.2.ext E9))
    have hz9 := E9.size
    obtain ⟨cw, cn, cm, ct⟩ := HN9.out.2.stpNums
    clear b9 E9 HN6 HN7 HN8 HCK
    go_upto_block 2 with (fail)
    go_cut [10, 11] (fun a d wc => a = .bool true ∧ d = .bool true ∧ ∃ (v : Value) (s : PS) (B : List Bd), BP w wc G g b n v s B ∧ Blk wc g9 49 st0.cells)
    case first =>
      have hb9 : ∀ x, x ∈ g.all → x ≠ g9 := fun x hx he => by have := HN9.out.1.rt.lo x hx; omega
      have hG9 : ∀ x, x ∈ G.all → x ≠ g9 := fun x hx he => by have := (HN9.out.1.newG x hx).2; omega
      have hKr : ∀ {W W' : World}, Blk W g9 49 st0.cells → Kp [g.gR, g.gW, g.gT] W W' → Blk W' g9 49 st0.cells := fun K k => K.kp k fun hm => hb9 _ (rmut_all hm) rfl
      have hKG : ∀ {W W' : World}, Blk W g9 49 st0.cells → Kp G.mut W W' → Blk W' g9 49 st0.cells := fun K k => K.kp k fun hm => hG9 _ (mut_all hm) rfl
      by_cases hw : st0.what = 0 ∨ st0.what = 1 ∨ st0.what = 2
      · as_aux_lemma =>
        have hb : ((st0.what == 0) = true) ∨ ((st0.what == 0) = false ∧ (st0.what == 1) = true) ∨ ((st0.what == 0) = false ∧ (st0.what == 1) = false ∧ (st0.what == 2) = true) := by rcases hw with h | h | h <;> rw [h] <;> decide
        have lf := HN9.out.2.stpFlow
        have HMR := Lib.hid (rmake_any g b v s B st0.flow st0.n st0.m st0.now W9 HN9.out.1.rt HN9.out.1.len)
        clear hw
        rcases hb with hb | ⟨hb0, hb⟩ | ⟨hb0, hb1, hb⟩
        all_goals
          go_wp2_with ((apply load_by rfl _ _ rfl _ rfl); (focus (with_reducible assumption)))
          refine HMR.out.mono ?_
          rintro e W10 hm
          unfold RMade at hm
          obtain ⟨rfl, ⟨v1, R1⟩, k1⟩ := hm
          obtain ⟨T1, e1⟩ := HN9.out.1.left k1
          have HMK := fun W (E : Ext W10 W) => make_any G s B st0.flow st0.n st0.m st0.now W (T1.ext E)
          generalize (if bMakeQ st0.flow st0.n st0.m st0.now s B = 0 then newBd st0.flow st0.n st0.m st0.now s else zeroBd) = xb at *
          generalize (if bMakeQ st0.flow st0.n st0.m st0.now s B = 0 then s.take st0.flow.client else s) = s1 at *
          generalize (if bMakeQ st0.flow st0.n st0.m st0.now s B = 0 then insB (newBd st0.flow st0.n st0.m st0.now s) B else B) = B1 at *
          generalize bMakeQ st0.flow st0.n st0.m st0.now s B = q at *
          have HM2 := Lib.hid HMK
          have K10 := hKr HN9.out.2 k1
          have KZ := Blk.new W10 53 #[.int .i64 0, .int .i64 0, .int .i64 0, .int .i64 0, .int .i64 0, .int .i64 0, .int .i64 0, .int .i64 0, .int .i64 0, .int .i64 0, .int .i64 0, .int .i64 0, .int .i64 0, .int .i64 0, .int .i64 0, .int .i64 0, .int .i64 0, .int .i64 0, .int .i64 0, .int .i64 0, .int .i64 0, .int .i64 0, .int .i64 0]
          have st := stoBd KZ xb
          have K14 := KZ.row xb.cells
          have E11 : Ext W10 _ := ((Ext.refl W10).alloc (.cells #[.int .i64 0, .int .i64 0, .int .i64 0, .int .i64 0, .int .i64 0, .int .i64 0, .int .i64 0, .int .i64 0, .int .i64 0, .int .i64 0, .int .i64 0, .int .i64 0, .int .i64 0, .int .i64 0, .int .i64 0, .int .i64 0, .int .i64 0, .int .i64 0, .int .i64 0, .int .i64 0, .int .i64 0, .int .i64 0, .int .i64 0] 53)).row (k := W10.heap.size) (Nat.le_refl _) xb.cells
          have HX := Lib.hid (And.intro R1 e1)
          have hz10 := k1.size
          clear KZ R1 e1 T1 k1 HMK lf cw cn cm ct
          go_upto_region 29 with ((apply store_by rfl _ _ _ rfl _ rfl); (focus (with_reducible assumption)); (focus rfl))
          refine at_worldE (fun W => Ext W10 W ∧ Blk W W10.heap.size 53 xb.cells ∧ Blk W g9 49 st0.cells) ⟨E11, K14, K10.ext E11⟩ ?_
          clear st K14 E11 K10
          rintro W11 ⟨E11, K14, K11⟩
          have lf := K11.stpFlow
          obtain ⟨cw, cn, cm, ct⟩ := K11.stpNums
          have HE11 := Lib.hid (And.intro E11 (And.intro K14 K11))
          have hz11 := E11.size
          clear E11 K14 K11
          go_wp2_with ((apply load_by rfl _ _ rfl _ rfl); (focus (with_reducible assumption)))
          refine (HM2.out W11 HE11.out.1).mono ?_
          rintro e W12 ⟨rfl, T2, k2⟩
          have N12 := HN9.out.1.turn (HX.out.1.ext HE11.out.1) T2 k2 (HX.out.2.trans (HE11.out.1.mono HX.out.2.size)) (HX.out.2.trans (HE11.out.1.mono HX.out.2.size)).size
          have K14 := HE11.out.2.1.kp k2 (fun hm => by have := (HN9.out.1.newG _ (mut_all hm)).2; omega)
          have K12 := hKG HE11.out.2.2 k2
          have KZ := Blk.new W12 53 #[.int .i64 0, .int .i64 0, .int .i64 0, .int .i64 0, .int .i64 0, .int .i64 0, .int .i64 0, .int .i64 0, .int .i64 0, .int .i64 0, .int .i64 0, .int .i64 0, .int .i64 0, .int .i64 0, .int .i64 0, .int .i64 0, .int .i64 0, .int .i64 0, .int .i64 0, .int .i64 0, .int .i64 0, .int .i64 0, .int .i64 0]
          have st := stoBd KZ xb
          have K16 := KZ.row xb.cells
          have E13 : Ext W12 _ := ((Ext.refl W12).alloc (.cells #[.int .i64 0, .int .i64 0, .int .i64 0, .int .i64 0, .int .i64 0, .int .i64 0, .int .i64 0, .int .i64 0, .int .i64 0, .int .i64 0, .int .i64 0, .int .i64 0, .int .i64 0, .int .i64 0, .int .i64 0, .int .i64 0, .int .i64 0, .int .i64 0, .int .i64 0, .int .i64 0, .int .i64 0, .int .i64 0, .int .i64 0] 53)).row (k := W12.heap.size) (Nat.le_refl _) xb.cells
          have HY := Lib.hid (And.intro N12 (And.intro K14 K12))
          clear KZ T2 k2 N12 K14 K12 lf cw cn cm ct
          go_upto_region 30 with ((apply store_by rfl _ _ _ rfl _ rfl); (focus (with_reducible assumption)); (focus rfl))
          refine at_worldE (fun W => Ext W12 W ∧ Blk W W12.heap.size 53 xb.cells) ⟨E13, K16⟩ ?_
          clear st K16 E13
          rintro W13 ⟨E13, K16⟩
          have HZ := Lib.hid (And.intro E13 K16)
          clear E13 K16
          go_wp2_with fail
          refine (err_same q W13 (HG.out.below (HY.out.1.grow HZ.out.1).ext)).mono ?_
          rintro e W14 ⟨rfl, b14⟩
          have E14 : Ext W13 W14 := b14
          have la := loaBd (HY.out.2.1.ext (HZ.out.1.trans E14))
          have lb := loaBd (HZ.out.2.ext E14)
          have le : ∀ W, (Op.equalIn 10000 53 (.agg xb.cells) (.agg xb.cells)).run Tryd.prog W = .ok true W := fun W => by rw [run_bdEq, (bdEq_iff xb xb).2 rfl]
          have HF := Lib.hid (And.intro (HY.out.1.grow (HZ.out.1.trans E14)) (HY.out.2.2.ext (HZ.out.1.trans E14)))
          clear b14 E14 HZ HY HE11 HX HM2
          go_wp2_with ((apply load_by rfl _ _ rfl _ rfl); (focus (with_reducible assumption)))
          go_meet
          exact ⟨rfl, rfl, _, _, _, HF.out.1, HF.out.2⟩
      have e0 : (st0.what == 0) = false := by simp; omega
      have e1 : (st0.what == 1) = false := by simp; omega
      have e2 : (st0.what == 2) = false := by simp; omega
      by_cases h3 : st0.what = 3
      · as_aux_lemma =>
        have e3 : (st0.what == 3) = true := by rw [h3]; rfl
        have HUR := Lib.hid (ruse_any g b v s B st0.n st0.now W9 HN9.out.1.rt HN9.out.1.tb.inv.toInv0 (by have := HN9.out.1.len; omega))
        clear hw h3
        go_wp2_with fail
        refine HUR.out.mono ?_
        rintro e W10 ⟨rfl, R1, k1⟩
        obtain ⟨T1, x1⟩ := HN9.out.1.leftV k1
        have hown : g9 ∉ v.ownBlock.toList := fun hm => by have := hvl g9 (by simpa using hm); omega
        have K10 := HN9.out.2.kp k1 hown
        obtain ⟨cw, cn, cm, ct⟩ := K10.stpNums
        have HU2 := use_any G s B st0.n st0.now W10 T1
        generalize (if bUseQ st0.n st0.now B = 0 then useB st0.n st0.now B else B) = B1 at *
        generalize bUseQ st0.n st0.now B = q at *
        have HX := Lib.hid (And.intro R1 (And.intro x1 (And.intro K10 HU2)))
        clear R1 T1 x1 k1 K10 HU2
        go_wp2_with fail
        refine HX.out.2.2.2.mono ?_
        rintro e W11 ⟨rfl, T2, k2⟩
        have N12 := HN9.out.1.turn HX.out.1 T2 k2 HX.out.2.1 HX.out.2.1.size
        have K12 := hKG HX.out.2.2.1 k2
        have HY := Lib.hid (And.intro N12 K12)
        clear N12 K12 T2 k2 cw cn cm ct
        go_wp2_with fail
        refine (err_same q W11 (HG.out.below HY.out.1.ext)).mono ?_
        rintro e W14 ⟨rfl, b14⟩
        have E14 : Ext W11 W14 := b14
        have HF := Lib.hid (And.intro (HY.out.1.grow E14) (HY.out.2.ext E14))
        clear b14 E14
        go_wp2_with fail
        go_meet
        exact ⟨rfl, rfl, _, _, _, HF.out.1, HF.out.2⟩
      have e3 : (st0.what == 3) = false := by simpa using h3
      by_cases h4 : st0.what = 4
      · as_aux_lemma =>
        have e4 : (st0.what == 4) = true := by rw [h4]; rfl
        have HTK := Lib.hid (rtick_any st0.now W9)
        clear hw h3 h4
        go_wp2_with fail
        refine HTK.out.mono ?_
        rintro e W10 ⟨rfl, rfl⟩
        cases hT : okT st0.now
        case false =>
          have HEX := Lib.hid (expire_no G s B st0.now W10 HN9.out.1.tb hT)
          clear hT
          go_wp2_with fail
          refine HEX.out.mono ?_
          rintro e W11 ⟨x11, rfl, o11, T2, k2⟩
          have N12 := HN9.out.1.turn HN9.out.1.rt T2 k2 HN9.out.1.ext HN9.out.1.size
          have K12 := hKG HN9.out.2 k2
          obtain ⟨a11, c11, rfl, _, r11, _, _⟩ := o11.open
          have HY := Lib.hid (And.intro N12 (And.intro K12 r11))
          clear N12 K12 T2 k2 o11 r11 cw cn cm ct
          go_wp2_with fail
          refine (err_same 1 W11 (HG.out.below HY.out.1.ext)).mono ?_
          rintro e W12 ⟨rfl, b12⟩
          have E12 : Ext W11 W12 := b12
          have HZ := Lib.hid E12
          clear b12 E12
          go_wp2_with fail
          refine (sbinds_yes a11 none 0 c11 0 [] W12 (HY.out.2.2.ext HZ.out) (Kin.See.nil _ _) (by omega)).mono ?_
          rintro e W13 ⟨rfl, E13⟩
          have HF := Lib.hid (And.intro (HY.out.1.grow (HZ.out.trans E13)) (HY.out.2.1.ext (HZ.out.trans E13)))
          clear E13
          go_wp2_with fail
          go_meet
          exact ⟨rfl, rfl, _, _, _, HF.out.1, HF.out.2⟩
        case true =>
          have HRX := Lib.hid (rexpire_any g b v s B st0.now W10 HN9.out.1.rt HN9.out.1.tb.inv.toInv0 HN9.out.1.len hT)
          have HE2 := Lib.hid (fun W (T : TB W G s B) => expire_yes G s B st0.now W T hT)
          clear hT
          go_wp2_with fail
          refine HRX.out.mono ?_
          rintro e W11 ⟨u11, v11, rfl, o11, R1, k1⟩
          obtain ⟨T1, x1⟩ := HN9.out.1.left k1
          have K11 := hKr HN9.out.2 k1
          obtain ⟨cw, cn, cm, ct⟩ := K11.stpNums
          obtain ⟨au, cu, hu, _, ru, lu, _⟩ := o11.open
          have hulo : ∀ x, u11.ownBlock = some x → W10.heap.size ≤ x := fun x hx => (o11.lt x hx).1
          have hbz := HN9.out.1.rt.base
          have HX := Lib.hid (And.intro R1 (And.intro x1 (And.intro K11 (And.intro T1 (And.intro o11 hulo)))))
          clear R1 x1 K11 T1 k1 ru lu o11 hulo
          subst hu
          go_wp2_with fail
          refine (HE2.out W11 HX.out.2.2.2.1).mono ?_
          rintro e W12 ⟨x12, rfl, o12, T2, k2⟩
          have N12 := HN9.out.1.turn HX.out.1 T2 k2 HX.out.2.1 HX.out.2.1.size
          have K12 := hKG HX.out.2.2.1 k2
          obtain ⟨a12, c12, rfl, _, r12, _, _⟩ := o12.open
          have o13 := HX.out.2.2.2.2.1.kp k2 (fun x hx hm => by have h1 := HX.out.2.2.2.2.2 x hx; have h2 := (HN9.out.1.newG x (mut_all hm)).2; omega)
          obtain ⟨n13, hn13⟩ : ∃ m, (outB st0.now B).length = m := ⟨_, rfl⟩
          have ru : KB.See W12 au (outB st0.now B).length (outB st0.now B) := by
            obtain ⟨a, c, hv, _, hs, _, _⟩ := o13.open
            cases hv
            exact hs
          have hl128 : (outB st0.now B).length ≤ 128 := by
            have h1 := List.length_filter_le (past st0.now) B
            have h2 := HN9.out.1.len
            unfold outB
            omega
          rw [hn13] at ru r12 hl128 ⊢
          have HY := Lib.hid (And.intro N12 (And.intro K12 (And.intro r12 ru)))
          clear N12 K12 T2 k2 o12 r12 ru o13 cw cn cm ct hn13
          go_wp2_with fail
          refine (err_same 0 W12 (HG.out.below HY.out.1.ext)).mono ?_
          rintro e W13 ⟨rfl, b13⟩
          have E13 : Ext W12 W13 := b13
          have HZ := Lib.hid E13
          clear b13 E13
          go_wp2_with fail
          refine (sbinds_yes a12 au n13 c12 cu (outB st0.now B) W13 (HY.out.2.2.1.ext HZ.out) (HY.out.2.2.2.ext HZ.out) (by omega)).mono ?_
          rintro e W14 ⟨rfl, E14⟩
          have HF := Lib.hid (And.intro (HY.out.1.grow (HZ.out.trans E14)) (HY.out.2.1.ext (HZ.out.trans E14)))
          clear E14
          go_wp2_with fail
          go_meet
          exact ⟨rfl, rfl, _, _, _, HF.out.1, HF.out.2⟩
      have e4 : (st0.what == 4) = false := by simpa using h4
      have HPL := Lib.hid (rport_place g b v s B st0.n W9 HN9.out.1.rt (by have := HN9.out.1.len; omega))
      clear hw h3 h4
      have KZ := Blk.new W9 53 #[.int .i64 0, .int .i64 0, .int .i64 0, .int .i64 0, .int .i64 0, .int .i64 0, .int .i64 0, .int .i64 0, .int .i64 0, .int .i64 0, .int .i64 0, .int .i64 0, .int .i64 0, .int .i64 0, .int .i64 0, .int .i64 0, .int .i64 0, .int .i64 0, .int .i64 0, .int .i64 0, .int .i64 0, .int .i64 0, .int .i64 0]
      have E10 : Ext W9 (W9.alloc (.cells #[.int .i64 0, .int .i64 0, .int .i64 0, .int .i64 0, .int .i64 0, .int .i64 0, .int .i64 0, .int .i64 0, .int .i64 0, .int .i64 0, .int .i64 0, .int .i64 0, .int .i64 0, .int .i64 0, .int .i64 0, .int .i64 0, .int .i64 0, .int .i64 0, .int .i64 0, .int .i64 0, .int .i64 0, .int .i64 0, .int .i64 0] 53)) := (Ext.refl W9).alloc _
      have HPL := Lib.hid (rport_place g b v s B st0.n _ (HN9.out.1.grow E10).rt (by have := HN9.out.1.len; omega))
      have cn := (HN9.out.2.ext E10).stpNums.2.1
      go_wp2_with fail
      refine at_world (fun W => Ext W9 W ∧ Blk W W9.heap.size 53 #[.int .i64 0, .int .i64 0, .int .i64 0, .int .i64 0, .int .i64 0, .int .i64 0, .int .i64 0, .int .i64 0, .int .i64 0, .int .i64 0, .int .i64 0, .int .i64 0, .int .i64 0, .int .i64 0, .int .i64 0, .int .i64 0, .int .i64 0, .int .i64 0, .int .i64 0, .int .i64 0, .int .i64 0, .int .i64 0, .int .i64 0] ∧ W9.heap.size < W.heap.size) ⟨E10, KZ, KZ.lt⟩ ?_
      clear KZ E10 HPL cn
      rintro W10 ⟨E10, KZ, hl10⟩
      have HE10 := Lib.hid (And.intro E10 KZ)
      have hv25 : ∀ y, v.ownBlock = some y → y < W9.heap.size := fun y hy => (HN9.out.1.rt.own.lt y hy).2
      have h925 : g9 < W9.heap.size := HN9.out.2.lt
      have hb25 : b ≤ W9.heap.size := HN9.out.1.rt.base
      have N10 := HN9.out.1.grow E10
      have HN10 := Lib.hid (And.intro N10 (HN9.out.2.ext E10))
      refine (rport_place g b v s B st0.n W10 N10.rt (by have := N10.len; omega)).mono ?_
      rintro e W11 ⟨rfl, rfl⟩
      clear N10 E10 KZ
      generalize W9.heap.size = g25 at *
      have hfi : ∀ q x, (bNear st0.flow.kind st0.n B = none → q = 4 ∧ x = zeroBd) → (∀ y, bNear st0.flow.kind st0.n B = some y → q = 0 ∧ x = y) → (bNear st0.flow.kind st0.n B).getD zeroBd = x ∧ (if (bNear st0.flow.kind st0.n B).isSome = true then (0 : Int) else 4) = q := fun q x h1 h2 => by
        cases hf : bNear st0.flow.kind st0.n B with
        | none => obtain ⟨rfl, rfl⟩ := h1 hf; exact ⟨rfl, rfl⟩
        | some y => obtain ⟨rfl, rfl⟩ := h2 y hf; exact ⟨rfl, rfl⟩
      rcases place_find (fun b => b.near == st0.n) B with ⟨hf, hp⟩ | ⟨j, x, hx, hf, hp⟩
      · as_aux_lemma =>
        rw [hp]
        have hbn : bNear st0.flow.kind st0.n B = none := by unfold bNear findN; rw [hf]; rfl
        have HFI := Lib.hid (hfi 4 zeroBd (fun _ => ⟨rfl, rfl⟩) (fun y hy => by rw [hbn] at hy; cases hy))
        have HT0 := Lib.hid (And.intro HN10.out.1 (And.intro HN10.out.2 (show Blk W11 g25 53 zeroBd.cells from HE10.out.2)))
        clear hfi hf hp hbn
        go_wp2_with fail
        refine wp_region_quiet_lit (by kernel_rfl) (by kernel_rfl) ?_; repeat (go_big_quiet_step (fail))
        refine wpQuiet_nil ?_; intro _ hw'; obtain ⟨nq, hw''⟩ := hw'; subst hw''
        have HT := Lib.hid (And.intro (HT0.out.1.grow ((Ext.refl W11).drewN nq)) (And.intro (HT0.out.2.1.drewN nq) (HT0.out.2.2.drewN nq)))
        have HNR := Lib.hid (near_any G s B st0.flow.kind st0.n (W11.drewN nq) HT.out.1.tb)
        rw [HFI.out.1, HFI.out.2] at HNR
        obtain ⟨cw, cn, cm, ct⟩ := HT.out.2.1.stpNums
        have ck : (W11.drewN nq).cell? ⟨g9, 9, none⟩ = some (.int .i64 st0.flow.kind) := HT.out.2.1.cells 9
        go_wp2_with fail
        refine HNR.out.mono ?_
        rintro e W20 ⟨rfl, E20⟩
        have KZ := Blk.new W20 53 #[.int .i64 0, .int .i64 0, .int .i64 0, .int .i64 0, .int .i64 0, .int .i64 0, .int .i64 0, .int .i64 0, .int .i64 0, .int .i64 0, .int .i64 0, .int .i64 0, .int .i64 0, .int .i64 0, .int .i64 0, .int .i64 0, .int .i64 0, .int .i64 0, .int .i64 0, .int .i64 0, .int .i64 0, .int .i64 0, .int .i64 0]
        have st := stoBd KZ zeroBd
        have K27 := KZ.row (Bd.cells zeroBd)
        have E21 : Ext W20 _ := ((Ext.refl W20).alloc (.cells #[.int .i64 0, .int .i64 0, .int .i64 0, .int .i64 0, .int .i64 0, .int .i64 0, .int .i64 0, .int .i64 0, .int .i64 0, .int .i64 0, .int .i64 0, .int .i64 0, .int .i64 0, .int .i64 0, .int .i64 0, .int .i64 0, .int .i64 0, .int .i64 0, .int .i64 0, .int .i64 0, .int .i64 0, .int .i64 0, .int .i64 0] 53)).row (k := W20.heap.size) (Nat.le_refl _) (Bd.cells zeroBd)
        have HE20 := Lib.hid E20
        clear KZ HNR E20 cw cn cm ct ck
        go_upto_region 23 with ((apply store_by rfl _ _ _ rfl _ rfl); (focus (with_reducible assumption)); (focus rfl))
        refine at_worldE (fun W => Ext W20 W ∧ Blk W W20.heap.size 53 (Bd.cells zeroBd)) ⟨E21, K27⟩ ?_
        clear st K27 E21
        rintro W21 ⟨E21, K27⟩
        have HT2 := Lib.hid (And.intro (HT.out.1.grow (HE20.out.trans E21)) (And.intro (HT.out.2.1.ext (HE20.out.trans E21)) (And.intro (HT.out.2.2.ext (HE20.out.trans E21)) K27)))
        clear E21 K27
        go_wp2_with fail
        refine (err_same 4 W21 (HG.out.below HT2.out.1.ext)).mono ?_
        rintro e W22 ⟨rfl, b22⟩
        have E22 : Ext W21 W22 := b22
        have la := loaBd (HT2.out.2.2.2.ext E22)
        have lb := loaBd (HT2.out.2.2.1.ext E22)
        have le : ∀ W, (Op.equalIn 10000 53 (.agg (Bd.cells zeroBd)) (.agg (Bd.cells zeroBd))).run Tryd.prog W = .ok true W := fun W => by rw [run_bdEq, (bdEq_iff zeroBd zeroBd).2 rfl]
        have HF := Lib.hid (And.intro (HT2.out.1.grow E22) (HT2.out.2.1.ext E22))
        clear b22 E22
        go_wp2_with ((apply load_by rfl _ _ rfl _ rfl); (focus (with_reducible assumption)))
        go_meet
        exact ⟨rfl, rfl, _, _, _, HF.out.1, HF.out.2⟩
      · as_aux_lemma =>
        rw [hp]
        have hxn := findN_some (k := st0.n) (B := B) (b := x) hf
        have hj := (List.getElem?_eq_some_iff.1 hx).1
        have R11 := HN10.out.1.rt
        obtain ⟨aw, cv, hw, _, sw, _, _⟩ := R11.own.open
        obtain ⟨nw, hnw⟩ : ∃ m, B.length = m := ⟨_, rfl⟩
        have cW : W11.cell? ⟨g.gR, 1, none⟩ = some (.slice aw nw cv) := (R11.ptr.cells 1).trans (by rw [hw, hnw]; rfl)
        rw [hnw] at sw hj
        obtain ⟨bw, ow, rfl, _, hcs⟩ := sw.at (Ext.refl _) (by omega)
        have hcW := cW
        have ld := sw.bind hx
        have ckr : W11.cell? ⟨bw, ow + j * 23, none⟩ = some (.int .i64 x.flow.kind) := hcs j x hx 0 _ rfl
        have ck : W11.cell? ⟨g9, 9, none⟩ = some (.int .i64 st0.flow.kind) := HN10.out.2.cells 9
        have hjn : (j : Int) < (nw : Int) := by omega
        have dj : decide ((0 : Int) ≤ (j : Int)) = true := decide_eq_true (by omega)
        cases hk : (x.flow.kind == st0.flow.kind)
        case false =>
          have hbn : bNear st0.flow.kind st0.n B = none := by unfold bNear findN; rw [hf]; simp [Option.filter, hk]
          have hk' : decide (x.flow.kind = st0.flow.kind) = false := by simpa using hk
          have HFI := Lib.hid (hfi 4 zeroBd (fun _ => ⟨rfl, rfl⟩) (fun y hy => by rw [hbn] at hy; cases hy))
          have HT0 := Lib.hid (And.intro HN10.out.1 (And.intro HN10.out.2 (show Blk W11 g25 53 zeroBd.cells from HE10.out.2)))
          clear hfi hf hp hbn R11 sw hcs ld hx
          go_wp2_with fail
          refine wp_region_quiet_lit (by kernel_rfl) (by kernel_rfl) ?_; repeat (go_big_quiet_step (fail))
          refine wpQuiet_nil ?_; intro _ hw'; obtain ⟨nq, hw''⟩ := hw'; subst hw''
          have HT := Lib.hid (And.intro (HT0.out.1.grow ((Ext.refl W11).drewN nq)) (And.intro (HT0.out.2.1.drewN nq) (HT0.out.2.2.drewN nq)))
          clear cW ckr ck hk hk' dj
          have HNR := Lib.hid (near_any G s B st0.flow.kind st0.n (W11.drewN nq) HT.out.1.tb)
          rw [HFI.out.1, HFI.out.2] at HNR
          obtain ⟨cw, cn, cm, ct⟩ := HT.out.2.1.stpNums
          have ck : (W11.drewN nq).cell? ⟨g9, 9, none⟩ = some (.int .i64 st0.flow.kind) := HT.out.2.1.cells 9
          go_wp2_with fail
          refine HNR.out.mono ?_
          rintro e W20 ⟨rfl, E20⟩
          have KZ := Blk.new W20 53 #[.int .i64 0, .int .i64 0, .int .i64 0, .int .i64 0, .int .i64 0, .int .i64 0, .int .i64 0, .int .i64 0, .int .i64 0, .int .i64 0, .int .i64 0, .int .i64 0, .int .i64 0, .int .i64 0, .int .i64 0, .int .i64 0, .int .i64 0, .int .i64 0, .int .i64 0, .int .i64 0, .int .i64 0, .int .i64 0, .int .i64 0]
          have st := stoBd KZ zeroBd
          have K27 := KZ.row (Bd.cells zeroBd)
          have E21 : Ext W20 _ := ((Ext.refl W20).alloc (.cells #[.int .i64 0, .int .i64 0, .int .i64 0, .int .i64 0, .int .i64 0, .int .i64 0, .int .i64 0, .int .i64 0, .int .i64 0, .int .i64 0, .int .i64 0, .int .i64 0, .int .i64 0, .int .i64 0, .int .i64 0, .int .i64 0, .int .i64 0, .int .i64 0, .int .i64 0, .int .i64 0, .int .i64 0, .int .i64 0, .int .i64 0] 53)).row (k := W20.heap.size) (Nat.le_refl _) (Bd.cells zeroBd)
          have HE20 := Lib.hid E20
          clear KZ HNR E20 cw cn cm ct ck
          go_upto_region 23 with ((apply store_by rfl _ _ _ rfl _ rfl); (focus (with_reducible assumption)); (focus rfl))
          refine at_worldE (fun W => Ext W20 W ∧ Blk W W20.heap.size 53 (Bd.cells zeroBd)) ⟨E21, K27⟩ ?_
          clear st K27 E21
          rintro W21 ⟨E21, K27⟩
          have HT2 := Lib.hid (And.intro (HT.out.1.grow (HE20.out.trans E21)) (And.intro (HT.out.2.1.ext (HE20.out.trans E21)) (And.intro (HT.out.2.2.ext (HE20.out.trans E21)) K27)))
          clear E21 K27
          go_wp2_with fail
          refine (err_same 4 W21 (HG.out.below HT2.out.1.ext)).mono ?_
          rintro e W22 ⟨rfl, b22⟩
          have E22 : Ext W21 W22 := b22
          have la := loaBd (HT2.out.2.2.2.ext E22)
          have lb := loaBd (HT2.out.2.2.1.ext E22)
          have le : ∀ W, (Op.equalIn 10000 53 (.agg (Bd.cells zeroBd)) (.agg (Bd.cells zeroBd))).run Tryd.prog W = .ok true W := fun W => by rw [run_bdEq, (bdEq_iff zeroBd zeroBd).2 rfl]
          have HF := Lib.hid (And.intro (HT2.out.1.grow E22) (HT2.out.2.1.ext E22))
          clear b22 E22
          go_wp2_with ((apply load_by rfl _ _ rfl _ rfl); (focus (with_reducible assumption)))
          go_meet
          exact ⟨rfl, rfl, _, _, _, HF.out.1, HF.out.2⟩
        case true =>
          have hbn : bNear st0.flow.kind st0.n B = some x := by unfold bNear findN; rw [hf]; simp [Option.filter, hk]
          have hk' : decide (x.flow.kind = st0.flow.kind) = true := by simpa using hk
          have HFI := Lib.hid (hfi 0 x (fun hy => by rw [hbn] at hy; cases hy) (fun y hy => by rw [hbn] at hy; cases hy; exact ⟨rfl, rfl⟩))
          have HSW := Lib.hid (And.intro sw hx)
          clear hfi hf hp hbn R11 sw hcs ld hx
          go_wp2_with fail
          refine wp_region_quiet_lit (by kernel_rfl) (by kernel_rfl) ?_; repeat (go_big_quiet_step (fail))
          refine wpQuiet_nil ?_; intro _ hw'; obtain ⟨nq, hw''⟩ := hw'; subst hw''
          have ED : Ext W11 (W11.drewN nq) := (Ext.refl W11).drewN nq
          have ld := (HSW.out.1.ext ED).bind HSW.out.2
          have K25 := HE10.out.2.drewN nq
          have st := stoBd K25 x
          have K26 := K25.row x.cells
          have kr : Kp [g25] (W11.drewN nq) ((W11.drewN nq).setRow g25 x.cells) := Kp.ofGrown (only_row1 _ g25 _) (by simp)
          have BD := HN10.out.1.grow ED
          have B13 : BP w ((W11.drewN nq).setRow g25 x.cells) G g b n v s B := ⟨BD.tb.kp kr (fun y hy hm => by have := (BD.newG y hy).2; simp at hm; omega), BD.rt.kp kr (fun y hy hm => by have := BD.rt.lo y hy; simp at hm; omega) (fun y hy hm => by have := hv25 y hy; simp at hm; omega), BD.newG, BD.newR, BD.dis, BD.b0, Below.kp BD.ext kr BD.size (fun y hy => by have := BD.b0; simp at hy; omega)⟩
          have K13 := (HN10.out.2.drewN nq).kp kr (fun hm => by simp at hm; omega)
          have HB13 := Lib.hid (And.intro B13 (And.intro K13 K26))
          clear K25 K26 kr BD B13 K13 ED cW ckr ck hk hk' dj
          have cW : (W11.drewN nq).cell? ⟨g.gR, 1, none⟩ = some (.slice (some ⟨bw, ow, none⟩) nw cv) := hcW
          go_upto_region 22 with (first | ((apply load_by rfl _ _ rfl _ rfl); (focus (with_reducible assumption))) | ((apply store_by rfl _ _ _ rfl _ rfl); (focus (with_reducible assumption)); (focus rfl)))
          refine at_worldE (fun W => BP w W G g b n v s B ∧ Blk W g9 49 st0.cells ∧ Blk W g25 53 x.cells) HB13.out ?_
          clear ld st cW HB13
          rintro W13 HB13
          have HT := Lib.hid HB13
          clear HB13
          have HNR := Lib.hid (near_any G s B st0.flow.kind st0.n W13 HT.out.1.tb)
          rw [HFI.out.1, HFI.out.2] at HNR
          obtain ⟨cw, cn, cm, ct⟩ := HT.out.2.1.stpNums
          have ck : W13.cell? ⟨g9, 9, none⟩ = some (.int .i64 st0.flow.kind) := HT.out.2.1.cells 9
          go_wp2_with fail
          refine HNR.out.mono ?_
          rintro e W20 ⟨rfl, E20⟩
          have KZ := Blk.new W20 53 #[.int .i64 0, .int .i64 0, .int .i64 0, .int .i64 0, .int .i64 0, .int .i64 0, .int .i64 0, .int .i64 0, .int .i64 0, .int .i64 0, .int .i64 0, .int .i64 0, .int .i64 0, .int .i64 0, .int .i64 0, .int .i64 0, .int .i64 0, .int .i64 0, .int .i64 0, .int .i64 0, .int .i64 0, .int .i64 0, .int .i64 0]
          have st := stoBd KZ x
          have K27 := KZ.row (Bd.cells x)
          have E21 : Ext W20 _ := ((Ext.refl W20).alloc (.cells #[.int .i64 0, .int .i64 0, .int .i64 0, .int .i64 0, .int .i64 0, .int .i64 0, .int .i64 0, .int .i64 0, .int .i64 0, .int .i64 0, .int .i64 0, .int .i64 0, .int .i64 0, .int .i64 0, .int .i64 0, .int .i64 0, .int .i64 0, .int .i64 0, .int .i64 0, .int .i64 0, .int .i64 0, .int .i64 0, .int .i64 0] 53)).row (k := W20.heap.size) (Nat.le_refl _) (Bd.cells x)
          have HE20 := Lib.hid E20
          clear KZ HNR E20 cw cn cm ct ck
          go_upto_region 23 with ((apply store_by rfl _ _ _ rfl _ rfl); (focus (with_reducible assumption)); (focus rfl))
          refine at_worldE (fun W => Ext W20 W ∧ Blk W W20.heap.size 53 (Bd.cells x)) ⟨E21, K27⟩ ?_
          clear st K27 E21
          rintro W21 ⟨E21, K27⟩
          have HT2 := Lib.hid (And.intro (HT.out.1.grow (HE20.out.trans E21)) (And.intro (HT.out.2.1.ext (HE20.out.trans E21)) (And.intro (HT.out.2.2.ext (HE20.out.trans E21)) K27)))
          clear E21 K27
          go_wp2_with fail
          refine (err_same 0 W21 (HG.out.below HT2.out.1.ext)).mono ?_
          rintro e W22 ⟨rfl, b22⟩
          have E22 : Ext W21 W22 := b22
          have la := loaBd (HT2.out.2.2.2.ext E22)
          have lb := loaBd (HT2.out.2.2.1.ext E22)
          have le : ∀ W, (Op.equalIn 10000 53 (.agg (Bd.cells x)) (.agg (Bd.cells x))).run Tryd.prog W = .ok true W := fun W => by rw [run_bdEq, (bdEq_iff x x).2 rfl]
          have HF := Lib.hid (And.intro (HT2.out.1.grow E22) (HT2.out.2.1.ext E22))
          clear b22 E22
          go_wp2_with ((apply load_by rfl _ _ rfl _ rfl); (focus (with_reducible assumption)))
          go_meet
          exact ⟨rfl, rfl, _, _, _, HF.out.1, HF.out.2⟩
    obtain ⟨rfl, rfl, v', s', B', N10, K10⟩ := hcut
    have hlen := N10.len
    have hbc := N10.rt.base
    have hvc : ∀ y, v'.ownBlock = some y → y < wc.heap.size := fun y hy => (N10.rt.own.lt y hy).2
    have h9c := K10.lt
    have HN10 := Lib.hid (And.intro N10 K10)
    clear cw cn cm ct HN9 N10 K10 HN
    have KZ := Blk.new wc 53 #[.int .i64 0, .int .i64 0, .int .i64 0, .int .i64 0, .int .i64 0, .int .i64 0, .int .i64 0, .int .i64 0, .int .i64 0, .int .i64 0, .int .i64 0, .int .i64 0, .int .i64 0, .int .i64 0, .int .i64 0, .int .i64 0, .int .i64 0, .int .i64 0, .int .i64 0, .int .i64 0, .int .i64 0, .int .i64 0, .int .i64 0]
    have E11 : Ext wc (wc.alloc (.cells #[.int .i64 0, .int .i64 0, .int .i64 0, .int .i64 0, .int .i64 0, .int .i64 0, .int .i64 0, .int .i64 0, .int .i64 0, .int .i64 0, .int .i64 0, .int .i64 0, .int .i64 0, .int .i64 0, .int .i64 0, .int .i64 0, .int .i64 0, .int .i64 0, .int .i64 0, .int .i64 0, .int .i64 0, .int .i64 0, .int .i64 0] 53)) := (Ext.refl wc).alloc _
    go_upto_region 48 with (fail)
    refine at_worldE (fun W => Ext wc W ∧ Blk W wc.heap.size 53 #[.int .i64 0, .int .i64 0, .int .i64 0, .int .i64 0, .int .i64 0, .int .i64 0, .int .i64 0, .int .i64 0, .int .i64 0, .int .i64 0, .int .i64 0, .int .i64 0, .int .i64 0, .int .i64 0, .int .i64 0, .int .i64 0, .int .i64 0, .int .i64 0, .int .i64 0, .int .i64 0, .int .i64 0, .int .i64 0, .int .i64 0] ∧ wc.heap.size < W.heap.size) ⟨E11, KZ, KZ.lt⟩ ?_
    clear KZ E11
    rintro W11 ⟨E11, KZ, hl11⟩
    have HN11 := Lib.hid (And.intro (HN10.out.1.grow E11) (And.intro (HN10.out.2.ext E11) KZ))
    generalize wc.heap.size = g29 at *
    clear E11 KZ HN10
    have lf := HN11.out.2.1.stpFlow
    rcases flowE_bFindQ st0.flow B' with ⟨f1, f2, f3, f4⟩ | ⟨f1, f2⟩
    · as_aux_lemma =>
      rw [HFE.out] at f1
      subst f1
      have HT := Lib.hid (And.intro HN11.out.1 (And.intro HN11.out.2.1 (show Blk W11 g29 53 zeroBd.cells from HN11.out.2.2)))
      have HFI := Lib.hid (And.intro f4 f3)
      clear lf f2 f3 f4
      have HFN := Lib.hid (find_any G s' B' st0.flow W11 HT.out.1.tb)
      rw [HFI.out.1, HFI.out.2] at HFN
      have lf := HT.out.2.1.stpFlow
      go_wp2_with ((apply load_by rfl _ _ rfl _ rfl); (focus (with_reducible assumption)))
      refine HFN.out.mono ?_
      rintro e W20 ⟨rfl, E20⟩
      have KZ := Blk.new W20 53 #[.int .i64 0, .int .i64 0, .int .i64 0, .int .i64 0, .int .i64 0, .int .i64 0, .int .i64 0, .int .i64 0, .int .i64 0, .int .i64 0, .int .i64 0, .int .i64 0, .int .i64 0, .int .i64 0, .int .i64 0, .int .i64 0, .int .i64 0, .int .i64 0, .int .i64 0, .int .i64 0, .int .i64 0, .int .i64 0, .int .i64 0]
      have st := stoBd KZ zeroBd
      have K31 := KZ.row (Bd.cells zeroBd)
      have E21 : Ext W20 _ := ((Ext.refl W20).alloc (.cells #[.int .i64 0, .int .i64 0, .int .i64 0, .int .i64 0, .int .i64 0, .int .i64 0, .int .i64 0, .int .i64 0, .int .i64 0, .int .i64 0, .int .i64 0, .int .i64 0, .int .i64 0, .int .i64 0, .int .i64 0, .int .i64 0, .int .i64 0, .int .i64 0, .int .i64 0, .int .i64 0, .int .i64 0, .int .i64 0, .int .i64 0] 53)).row (k := W20.heap.size) (Nat.le_refl _) (Bd.cells zeroBd)
      have HE20 := Lib.hid E20
      clear KZ lf HFN E20
      go_upto_region 54 with ((apply store_by rfl _ _ _ rfl _ rfl); (focus (with_reducible assumption)); (focus rfl))
      refine at_worldE (fun W => Ext W20 W ∧ Blk W W20.heap.size 53 (Bd.cells zeroBd)) ⟨E21, K31⟩ ?_
      clear st K31 E21
      rintro W21 ⟨E21, K31⟩
      have HT2 := Lib.hid (And.intro (HT.out.1.grow (HE20.out.trans E21)) (And.intro (HT.out.2.2.ext (HE20.out.trans E21)) K31))
      clear E21 K31
      go_wp2_with fail
      refine (err_same 1 W21 (HG.out.below HT2.out.1.ext)).mono ?_
      rintro e W22 ⟨rfl, b22⟩
      have E22 : Ext W21 W22 := b22
      have HT3 := Lib.hid (And.intro (HT2.out.1.grow E22) (And.intro (HT2.out.2.1.ext E22) (HT2.out.2.2.ext E22)))
      obtain ⟨av, cv, hv, _, sv, _, _⟩ := HT3.out.1.rt.own.open
      obtain ⟨nv, hnv⟩ : ∃ m, B'.length = m := ⟨_, rfl⟩
      have cV : W22.cell? ⟨g.gR, 1, none⟩ = some (.slice av nv cv) := (HT3.out.1.rt.ptr.cells 1).trans (by rw [hv, hnv]; rfl)
      rw [hnv] at sv
      have HSV := Lib.hid (And.intro sv hnv)
      clear b22 E22 hv sv
      go_wp2_with fail
      have S0 : (fun w' => w'.cell? ⟨g.gR, 1, none⟩ = some (.slice av nv cv)) W22.drew := cV
      refine wp_region_held_drew (S := (fun w' => w'.cell? ⟨g.gR, 1, none⟩ = some (.slice av nv cv))) (by kernel_rfl) S0 (fun hS0 => ?_)
      clear S0 cV
      have HD := Lib.hid (show Ext W22 W22.drew from (Ext.refl W22).drew)
      generalize W22.drew = V at *
      (refine wpAnyH_take (i := 0) (v := ?_) rfl (by kernel_rfl) (by kernel_rfl) (by kernel_rfl) (fun _ _ _ h => h) (Or.inl ⟨by rfl, ?_⟩) (by assumption) ?_; rotate_left; focus (intro w hSw; (try dsimp only at hSw); go_simp; try with_reducible rfl); try simp only [Act.put, List.getElem_toArray, List.getElem_cons_succ, List.getElem_cons_zero, List.setIfInBounds_toArray, List.set_cons_zero, List.set_cons_succ])
      (refine wpAnyH_take (i := 2) (v := ?_) rfl (by kernel_rfl) (by kernel_rfl) (by kernel_rfl) (fun _ _ _ h => h) (Or.inl ⟨by rfl, ?_⟩) (by assumption) ?_; rotate_left; focus (intro w hSw; (try dsimp only at hSw); go_simp; try with_reducible rfl); try simp only [Act.put, List.getElem_toArray, List.getElem_cons_succ, List.getElem_cons_zero, List.setIfInBounds_toArray, List.set_cons_zero, List.set_cons_succ])
      (refine wpAnyH_take (i := 3) (v := ?_) rfl (by kernel_rfl) (by kernel_rfl) (by kernel_rfl) (fun _ _ _ h => h) (Or.inl ⟨by rfl, ?_⟩) (by assumption) ?_; rotate_left; focus (intro w hSw; (try dsimp only at hSw); go_simp; try with_reducible rfl); try simp only [Act.put, List.getElem_toArray, List.getElem_cons_succ, List.getElem_cons_zero, List.setIfInBounds_toArray, List.set_cons_zero, List.set_cons_succ])
      (refine wpAnyH_take (i := 4) (v := ?_) rfl (by kernel_rfl) (by kernel_rfl) (by kernel_rfl) (fun _ _ _ h => h) (Or.inl ⟨by rfl, ?_⟩) (by assumption) ?_; rotate_left; focus (intro w hSw; (try dsimp only at hSw); go_simp; try with_reducible rfl); try simp only [Act.put, List.getElem_toArray, List.getElem_cons_succ, List.getElem_cons_zero, List.setIfInBounds_toArray, List.set_cons_zero, List.set_cons_succ])
      (refine wpAnyH_take (i := 5) (v := ?_) rfl (by kernel_rfl) (by kernel_rfl) (by kernel_rfl) (fun _ _ _ h => h) (Or.inl ⟨by rfl, ?_⟩) (by assumption) ?_; rotate_left; focus (intro w hSw; (try dsimp only at hSw); go_simp; try with_reducible rfl); try simp only [Act.put, List.getElem_toArray, List.getElem_cons_succ, List.getElem_cons_zero, List.setIfInBounds_toArray, List.set_cons_zero, List.set_cons_succ])
      (try simp only [Act.put, List.getElem_toArray, List.getElem_cons_succ, List.getElem_cons_zero, List.setIfInBounds_toArray, List.set_cons_zero, List.set_cons_succ])
      (refine wpAnyH_ready (rs := [1]) (by kernel_rfl) (by simp) ?_; refine AllReadyH.cons rfl (fun K hK => ?_) AllReadyH.nil)
      go_simp
      go_at_call 29
      refine (all_any G s' B' V (HT3.out.1.grow HD.out).tb).mono ?_
      rintro e V2 ⟨vA, rfl, oA, EA⟩
      obtain ⟨aA, cA, rfl, _, sA, _, _⟩ := oA.open
      have cV2 : V2.cell? ⟨g.gR, 1, none⟩ = some (.slice av nv cv) := (Below.cell EA (p := ⟨g.gR, 1, none⟩) (by have := HT3.out.1.rt.ptr.lt; have := HD.out.size; show g.gR < _; omega)).trans hS0
      refine hK.out _ _ cV2 ?_
      have HA := Lib.hid (And.intro sA EA)
      clear hK K oA sA EA cV2
      intro hS1
      (try simp only [Act.put, List.getElem_toArray, List.getElem_cons_succ, List.getElem_cons_zero, List.setIfInBounds_toArray, List.set_cons_zero, List.set_cons_succ])
      (refine wpAnyH_ready (rs := [6]) (by kernel_rfl) (by simp) ?_; refine AllReadyH.cons rfl (fun K hK => ?_) AllReadyH.nil)
      go_simp
      go_at_call 24
      rw [HSV.out.2] at HA
      refine (sbinds_yes aA av nv cA cv B' V2 HA.out.1 (HSV.out.1.ext (HD.out.trans HA.out.2)) (by omega)).mono ?_
      rintro e V3 ⟨rfl, E3⟩
      have cV3 : V3.cell? ⟨g.gR, 1, none⟩ = some (.slice av nv cv) := (Below.cell E3 (p := ⟨g.gR, 1, none⟩) (by have := HT3.out.1.rt.ptr.lt; have := HD.out.size; have := HA.out.2.size; show g.gR < _; omega)).trans hS1
      refine hK.out _ _ cV3 ?_
      have EE := (HD.out.trans HA.out.2).trans E3
      have HF := Lib.hid (And.intro (HT3.out.1.grow EE) (And.intro (HT3.out.2.1.ext EE) (HT3.out.2.2.ext EE)))
      clear hK K cV3 E3 EE
      intro hS2
      (try simp only [Act.put, List.getElem_toArray, List.getElem_cons_succ, List.getElem_cons_zero, List.setIfInBounds_toArray, List.set_cons_zero, List.set_cons_succ])
      (refine wpAnyH_take (i := 7) (v := ?_) rfl (by kernel_rfl) (by kernel_rfl) (by kernel_rfl) (fun _ _ _ h => h) (Or.inl ⟨by rfl, ?_⟩) (by assumption) ?_; rotate_left; focus (intro w hSw; (try dsimp only at hSw); go_simp; try with_reducible rfl); try simp only [Act.put, List.getElem_toArray, List.getElem_cons_succ, List.getElem_cons_zero, List.setIfInBounds_toArray, List.set_cons_zero, List.set_cons_succ])
      (try simp only [Act.put, List.getElem_toArray, List.getElem_cons_succ, List.getElem_cons_zero, List.setIfInBounds_toArray, List.set_cons_zero, List.set_cons_succ])
      refine wpAnyH_done (by kernel_rfl) ?_ _
      have la := loaBd HF.out.2.1
      have lb := loaBd HF.out.2.2
      have le : ∀ W, (Op.equalIn 10000 53 (.agg (Bd.cells zeroBd)) (.agg (Bd.cells zeroBd))).run Tryd.prog W = .ok true W := fun W => by rw [run_bdEq, (bdEq_iff zeroBd zeroBd).2 rfl]
      have wk : IntKind.i64.wrap ((k : Int) + 1) = (k : Int) + 1 := IntWalk.i64_in _ (by omega)
      clear hS0 hS1 hS2
      go_wp2_with ((apply load_by rfl _ _ rfl _ rfl); (focus (with_reducible assumption)))
      go_roundw
      case rel => exact ⟨k + 1, _, s', B', by omega, by omega, by go_num, HF.out.1⟩
      case measure => simp [intOf] <;> omega
    · rw [HFE.out] at f1
      subst f1
      have hfi : ∀ q x, (findF st0.flow B' = none → q = 4 ∧ x = zeroBd) → (∀ y, findF st0.flow B' = some y → q = 0 ∧ x = y) → bFind st0.flow B' = x ∧ bFindQ st0.flow B' = q := fun q x h1 h2 => by
        unfold bFind bFindQ
        rw [if_pos f2, if_pos f2]
        cases hf : findF st0.flow B' with
        | none => obtain ⟨rfl, rfl⟩ := h1 hf; exact ⟨rfl, rfl⟩
        | some y => obtain ⟨rfl, rfl⟩ := h2 y hf; exact ⟨rfl, rfl⟩
      go_wp2_with ((apply load_by rfl _ _ rfl _ rfl); (focus (with_reducible assumption)))
      refine (rfind_place g b v' s' B' st0.flow W11 HN11.out.1.rt (by omega)).mono ?_
      rintro e W12 ⟨rfl, E12⟩
      clear lf
      rcases place_find (fun b => flowEq b.flow st0.flow) B' with ⟨hf, hp⟩ | ⟨j, x, hx, hf, hp⟩
      · as_aux_lemma =>
        rw [hp]
        have HFI := Lib.hid (hfi 4 zeroBd (fun _ => ⟨rfl, rfl⟩) (fun y hy => by unfold findF at hy; rw [hf] at hy; cases hy))
        have HT := Lib.hid (And.intro (HN11.out.1.grow E12) (And.intro (HN11.out.2.1.ext E12) (show Blk W12 g29 53 zeroBd.cells from HN11.out.2.2.ext E12)))
        clear hfi hf hp E12
        have HFN := Lib.hid (find_any G s' B' st0.flow W12 HT.out.1.tb)
        rw [HFI.out.1, HFI.out.2] at HFN
        have lf := HT.out.2.1.stpFlow
        go_wp2_with ((apply load_by rfl _ _ rfl _ rfl); (focus (with_reducible assumption)))
        refine HFN.out.mono ?_
        rintro e W20 ⟨rfl, E20⟩
        have KZ := Blk.new W20 53 #[.int .i64 0, .int .i64 0, .int .i64 0, .int .i64 0, .int .i64 0, .int .i64 0, .int .i64 0, .int .i64 0, .int .i64 0, .int .i64 0, .int .i64 0, .int .i64 0, .int .i64 0, .int .i64 0, .int .i64 0, .int .i64 0, .int .i64 0, .int .i64 0, .int .i64 0, .int .i64 0, .int .i64 0, .int .i64 0, .int .i64 0]
        have st := stoBd KZ zeroBd
        have K31 := KZ.row (Bd.cells zeroBd)
        have E21 : Ext W20 _ := ((Ext.refl W20).alloc (.cells #[.int .i64 0, .int .i64 0, .int .i64 0, .int .i64 0, .int .i64 0, .int .i64 0, .int .i64 0, .int .i64 0, .int .i64 0, .int .i64 0, .int .i64 0, .int .i64 0, .int .i64 0, .int .i64 0, .int .i64 0, .int .i64 0, .int .i64 0, .int .i64 0, .int .i64 0, .int .i64 0, .int .i64 0, .int .i64 0, .int .i64 0] 53)).row (k := W20.heap.size) (Nat.le_refl _) (Bd.cells zeroBd)
        have HE20 := Lib.hid E20
        clear KZ lf HFN E20
        go_upto_region 54 with ((apply store_by rfl _ _ _ rfl _ rfl); (focus (with_reducible assumption)); (focus rfl))
        refine at_worldE (fun W => Ext W20 W ∧ Blk W W20.heap.size 53 (Bd.cells zeroBd)) ⟨E21, K31⟩ ?_
        clear st K31 E21
        rintro W21 ⟨E21, K31⟩
        have HT2 := Lib.hid (And.intro (HT.out.1.grow (HE20.out.trans E21)) (And.intro (HT.out.2.2.ext (HE20.out.trans E21)) K31))
        clear E21 K31
        go_wp2_with fail
        refine (err_same 4 W21 (HG.out.below HT2.out.1.ext)).mono ?_
        rintro e W22 ⟨rfl, b22⟩
        have E22 : Ext W21 W22 := b22
        have HT3 := Lib.hid (And.intro (HT2.out.1.grow E22) (And.intro (HT2.out.2.1.ext E22) (HT2.out.2.2.ext E22)))
        obtain ⟨av, cv, hv, _, sv, _, _⟩ := HT3.out.1.rt.own.open
        obtain ⟨nv, hnv⟩ : ∃ m, B'.length = m := ⟨_, rfl⟩
        have cV : W22.cell? ⟨g.gR, 1, none⟩ = some (.slice av nv cv) := (HT3.out.1.rt.ptr.cells 1).trans (by rw [hv, hnv]; rfl)
        rw [hnv] at sv
        have HSV := Lib.hid (And.intro sv hnv)
        clear b22 E22 hv sv
        go_wp2_with fail
        have S0 : (fun w' => w'.cell? ⟨g.gR, 1, none⟩ = some (.slice av nv cv)) W22.drew := cV
        refine wp_region_held_drew (S := (fun w' => w'.cell? ⟨g.gR, 1, none⟩ = some (.slice av nv cv))) (by kernel_rfl) S0 (fun hS0 => ?_)
        clear S0 cV
        have HD := Lib.hid (show Ext W22 W22.drew from (Ext.refl W22).drew)
        generalize W22.drew = V at *
        (refine wpAnyH_take (i := 0) (v := ?_) rfl (by kernel_rfl) (by kernel_rfl) (by kernel_rfl) (fun _ _ _ h => h) (Or.inl ⟨by rfl, ?_⟩) (by assumption) ?_; rotate_left; focus (intro w hSw; (try dsimp only at hSw); go_simp; try with_reducible rfl); try simp only [Act.put, List.getElem_toArray, List.getElem_cons_succ, List.getElem_cons_zero, List.setIfInBounds_toArray, List.set_cons_zero, List.set_cons_succ])
        (refine wpAnyH_take (i := 2) (v := ?_) rfl (by kernel_rfl) (by kernel_rfl) (by kernel_rfl) (fun _ _ _ h => h) (Or.inl ⟨by rfl, ?_⟩) (by assumption) ?_; rotate_left; focus (intro w hSw; (try dsimp only at hSw); go_simp; try with_reducible rfl); try simp only [Act.put, List.getElem_toArray, List.getElem_cons_succ, List.getElem_cons_zero, List.setIfInBounds_toArray, List.set_cons_zero, List.set_cons_succ])
        (refine wpAnyH_take (i := 3) (v := ?_) rfl (by kernel_rfl) (by kernel_rfl) (by kernel_rfl) (fun _ _ _ h => h) (Or.inl ⟨by rfl, ?_⟩) (by assumption) ?_; rotate_left; focus (intro w hSw; (try dsimp only at hSw); go_simp; try with_reducible rfl); try simp only [Act.put, List.getElem_toArray, List.getElem_cons_succ, List.getElem_cons_zero, List.setIfInBounds_toArray, List.set_cons_zero, List.set_cons_succ])
        (refine wpAnyH_take (i := 4) (v := ?_) rfl (by kernel_rfl) (by kernel_rfl) (by kernel_rfl) (fun _ _ _ h => h) (Or.inl ⟨by rfl, ?_⟩) (by assumption) ?_; rotate_left; focus (intro w hSw; (try dsimp only at hSw); go_simp; try with_reducible rfl); try simp only [Act.put, List.getElem_toArray, List.getElem_cons_succ, List.getElem_cons_zero, List.setIfInBounds_toArray, List.set_cons_zero, List.set_cons_succ])
        (refine wpAnyH_take (i := 5) (v := ?_) rfl (by kernel_rfl) (by kernel_rfl) (by kernel_rfl) (fun _ _ _ h => h) (Or.inl ⟨by rfl, ?_⟩) (by assumption) ?_; rotate_left; focus (intro w hSw; (try dsimp only at hSw); go_simp; try with_reducible rfl); try simp only [Act.put, List.getElem_toArray, List.getElem_cons_succ, List.getElem_cons_zero, List.setIfInBounds_toArray, List.set_cons_zero, List.set_cons_succ])
        (try simp only [Act.put, List.getElem_toArray, List.getElem_cons_succ, List.getElem_cons_zero, List.setIfInBounds_toArray, List.set_cons_zero, List.set_cons_succ])
        (refine wpAnyH_ready (rs := [1]) (by kernel_rfl) (by simp) ?_; refine AllReadyH.cons rfl (fun K hK => ?_) AllReadyH.nil)
        go_simp
        go_at_call 29
        refine (all_any G s' B' V (HT3.out.1.grow HD.out).tb).mono ?_
        rintro e V2 ⟨vA, rfl, oA, EA⟩
        obtain ⟨aA, cA, rfl, _, sA, _, _⟩ := oA.open
        have cV2 : V2.cell? ⟨g.gR, 1, none⟩ = some (.slice av nv cv) := (Below.cell EA (p := ⟨g.gR, 1, none⟩) (by have := HT3.out.1.rt.ptr.lt; have := HD.out.size; show g.gR < _; omega)).trans hS0
        refine hK.out _ _ cV2 ?_
        have HA := Lib.hid (And.intro sA EA)
        clear hK K oA sA EA cV2
        intro hS1
        (try simp only [Act.put, List.getElem_toArray, List.getElem_cons_succ, List.getElem_cons_zero, List.setIfInBounds_toArray, List.set_cons_zero, List.set_cons_succ])
        (refine wpAnyH_ready (rs := [6]) (by kernel_rfl) (by simp) ?_; refine AllReadyH.cons rfl (fun K hK => ?_) AllReadyH.nil)
        go_simp
        go_at_call 24
        rw [HSV.out.2] at HA
        refine (sbinds_yes aA av nv cA cv B' V2 HA.out.1 (HSV.out.1.ext (HD.out.trans HA.out.2)) (by omega)).mono ?_
        rintro e V3 ⟨rfl, E3⟩
        have cV3 : V3.cell? ⟨g.gR, 1, none⟩ = some (.slice av nv cv) := (Below.cell E3 (p := ⟨g.gR, 1, none⟩) (by have := HT3.out.1.rt.ptr.lt; have := HD.out.size; have := HA.out.2.size; show g.gR < _; omega)).trans hS1
        refine hK.out _ _ cV3 ?_
        have EE := (HD.out.trans HA.out.2).trans E3
        have HF := Lib.hid (And.intro (HT3.out.1.grow EE) (And.intro (HT3.out.2.1.ext EE) (HT3.out.2.2.ext EE)))
        clear hK K cV3 E3 EE
        intro hS2
        (try simp only [Act.put, List.getElem_toArray, List.getElem_cons_succ, List.getElem_cons_zero, List.setIfInBounds_toArray, List.set_cons_zero, List.set_cons_succ])
        (refine wpAnyH_take (i := 7) (v := ?_) rfl (by kernel_rfl) (by kernel_rfl) (by kernel_rfl) (fun _ _ _ h => h) (Or.inl ⟨by rfl, ?_⟩) (by assumption) ?_; rotate_left; focus (intro w hSw; (try dsimp only at hSw); go_simp; try with_reducible rfl); try simp only [Act.put, List.getElem_toArray, List.getElem_cons_succ, List.getElem_cons_zero, List.setIfInBounds_toArray, List.set_cons_zero, List.set_cons_succ])
        (try simp only [Act.put, List.getElem_toArray, List.getElem_cons_succ, List.getElem_cons_zero, List.setIfInBounds_toArray, List.set_cons_zero, List.set_cons_succ])
        refine wpAnyH_done (by kernel_rfl) ?_ _
        have la := loaBd HF.out.2.1
        have lb := loaBd HF.out.2.2
        have le : ∀ W, (Op.equalIn 10000 53 (.agg (Bd.cells zeroBd)) (.agg (Bd.cells zeroBd))).run Tryd.prog W = .ok true W := fun W => by rw [run_bdEq, (bdEq_iff zeroBd zeroBd).2 rfl]
        have wk : IntKind.i64.wrap ((k : Int) + 1) = (k : Int) + 1 := IntWalk.i64_in _ (by omega)
        clear hS0 hS1 hS2
        go_wp2_with ((apply load_by rfl _ _ rfl _ rfl); (focus (with_reducible assumption)))
        go_roundw
        case rel => exact ⟨k + 1, _, s', B', by omega, by omega, by go_num, HF.out.1⟩
        case measure => simp [intOf] <;> omega
      · as_aux_lemma =>
        rw [hp]
        have HFI := Lib.hid (hfi 0 x (fun hy => by unfold findF at hy; rw [hf] at hy; cases hy) (fun y hy => by unfold findF at hy; rw [hf] at hy; cases hy; exact ⟨rfl, rfl⟩))
        have hj := (List.getElem?_eq_some_iff.1 hx).1
        have R12 := HN11.out.1.rt.ext E12
        obtain ⟨aw, cw, hw, _, sw, _, _⟩ := R12.own.open
        obtain ⟨nw, hnw⟩ : ∃ m, B'.length = m := ⟨_, rfl⟩
        have cW : W12.cell? ⟨g.gR, 1, none⟩ = some (.slice aw nw cw) := (R12.ptr.cells 1).trans (by rw [hw, hnw]; rfl)
        rw [hnw] at sw hj
        obtain ⟨bw, ow, rfl, _, _⟩ := sw.at (Ext.refl _) (by omega)
        have ld := sw.bind hx
        have K29 := HN11.out.2.2.ext E12
        have st := stoBd K29 x
        have K30 := K29.row x.cells
        have hjn : (j : Int) < (nw : Int) := by omega
        have dj : decide ((j : Int) < 0) = false := decide_eq_false (by omega)
        have hg29 : ∀ y, y < b → y ∉ [g29] := fun y hy hm => by
          simp at hm
          omega
        have kr : Kp [g29] W12 (W12.setRow g29 x.cells) := Kp.ofGrown (only_row1 W12 g29 _) (by simp)
        have B13 : BP w (W12.setRow g29 x.cells) G g b n v' s' B' := ⟨(HN11.out.1.tb.ext E12).kp kr (fun y hy hm => by have := (HN11.out.1.newG y hy).2; simp at hm; omega), R12.kp kr (fun y hy hm => by have := R12.lo y hy; simp at hm; omega) (fun y hy hm => by have := hvc y hy; simp at hm; omega), HN11.out.1.newG, HN11.out.1.newR, HN11.out.1.dis, HN11.out.1.b0, Below.kp (HN11.out.1.grow E12).ext kr (HN11.out.1.grow E12).size (fun y hy => by have := HN11.out.1.b0; simp at hy; omega)⟩
        have K13 := (HN11.out.2.1.ext E12).kp kr (fun hm => by simp at hm; omega)
        have HB13 := Lib.hid (And.intro B13 (And.intro K13 K30))
        clear hfi hf hp E12 R12 sw hw hx hnw K29 K30 kr B13 K13 hg29
        go_upto_region 53 with (first | ((apply load_by rfl _ _ rfl _ rfl); (focus (with_reducible assumption))) | ((apply store_by rfl _ _ _ rfl _ rfl); (focus (with_reducible assumption)); (focus rfl)))
        refine at_worldE (fun W => BP w W G g b n v' s' B' ∧ Blk W g9 49 st0.cells ∧ Blk W g29 53 x.cells) HB13.out ?_
        clear ld st cW HB13
        rintro W13 HB13
        have HT := Lib.hid HB13
        clear HB13
        have HFN := Lib.hid (find_any G s' B' st0.flow W13 HT.out.1.tb)
        rw [HFI.out.1, HFI.out.2] at HFN
        have lf := HT.out.2.1.stpFlow
        go_wp2_with ((apply load_by rfl _ _ rfl _ rfl); (focus (with_reducible assumption)))
        refine HFN.out.mono ?_
        rintro e W20 ⟨rfl, E20⟩
        have KZ := Blk.new W20 53 #[.int .i64 0, .int .i64 0, .int .i64 0, .int .i64 0, .int .i64 0, .int .i64 0, .int .i64 0, .int .i64 0, .int .i64 0, .int .i64 0, .int .i64 0, .int .i64 0, .int .i64 0, .int .i64 0, .int .i64 0, .int .i64 0, .int .i64 0, .int .i64 0, .int .i64 0, .int .i64 0, .int .i64 0, .int .i64 0, .int .i64 0]
        have st := stoBd KZ x
        have K31 := KZ.row (Bd.cells x)
        have E21 : Ext W20 _ := ((Ext.refl W20).alloc (.cells #[.int .i64 0, .int .i64 0, .int .i64 0, .int .i64 0, .int .i64 0, .int .i64 0, .int .i64 0, .int .i64 0, .int .i64 0, .int .i64 0, .int .i64 0, .int .i64 0, .int .i64 0, .int .i64 0, .int .i64 0, .int .i64 0, .int .i64 0, .int .i64 0, .int .i64 0, .int .i64 0, .int .i64 0, .int .i64 0, .int .i64 0] 53)).row (k := W20.heap.size) (Nat.le_refl _) (Bd.cells x)
        have HE20 := Lib.hid E20
        clear KZ lf HFN E20
        go_upto_region 54 with ((apply store_by rfl _ _ _ rfl _ rfl); (focus (with_reducible assumption)); (focus rfl))
        refine at_worldE (fun W => Ext W20 W ∧ Blk W W20.heap.size 53 (Bd.cells x)) ⟨E21, K31⟩ ?_
        clear st K31 E21
        rintro W21 ⟨E21, K31⟩
        have HT2 := Lib.hid (And.intro (HT.out.1.grow (HE20.out.trans E21)) (And.intro (HT.out.2.2.ext (HE20.out.trans E21)) K31))
        clear E21 K31
        go_wp2_with fail
        refine (err_same 0 W21 (HG.out.below HT2.out.1.ext)).mono ?_
        rintro e W22 ⟨rfl, b22⟩
        have E22 : Ext W21 W22 := b22
        have HT3 := Lib.hid (And.intro (HT2.out.1.grow E22) (And.intro (HT2.out.2.1.ext E22) (HT2.out.2.2.ext E22)))
        obtain ⟨av, cv, hv, _, sv, _, _⟩ := HT3.out.1.rt.own.open
        obtain ⟨nv, hnv⟩ : ∃ m, B'.length = m := ⟨_, rfl⟩
        have cV : W22.cell? ⟨g.gR, 1, none⟩ = some (.slice av nv cv) := (HT3.out.1.rt.ptr.cells 1).trans (by rw [hv, hnv]; rfl)
        rw [hnv] at sv
        have HSV := Lib.hid (And.intro sv hnv)
        clear b22 E22 hv sv
        go_wp2_with fail
        have S0 : (fun w' => w'.cell? ⟨g.gR, 1, none⟩ = some (.slice av nv cv)) W22.drew := cV
        refine wp_region_held_drew (S := (fun w' => w'.cell? ⟨g.gR, 1, none⟩ = some (.slice av nv cv))) (by kernel_rfl) S0 (fun hS0 => ?_)
        clear S0 cV
        have HD := Lib.hid (show Ext W22 W22.drew from (Ext.refl W22).drew)
        generalize W22.drew = V at *
        (refine wpAnyH_take (i := 0) (v := ?_) rfl (by kernel_rfl) (by kernel_rfl) (by kernel_rfl) (fun _ _ _ h => h) (Or.inl ⟨by rfl, ?_⟩) (by assumption) ?_; rotate_left; focus (intro w hSw; (try dsimp only at hSw); go_simp; try with_reducible rfl); try simp only [Act.put, List.getElem_toArray, List.getElem_cons_succ, List.getElem_cons_zero, List.setIfInBounds_toArray, List.set_cons_zero, List.set_cons_succ])
        (refine wpAnyH_take (i := 2) (v := ?_) rfl (by kernel_rfl) (by kernel_rfl) (by kernel_rfl) (fun _ _ _ h => h) (Or.inl ⟨by rfl, ?_⟩) (by assumption) ?_; rotate_left; focus (intro w hSw; (try dsimp only at hSw); go_simp; try with_reducible rfl); try simp only [Act.put, List.getElem_toArray, List.getElem_cons_succ, List.getElem_cons_zero, List.setIfInBounds_toArray, List.set_cons_zero, List.set_cons_succ])
        (refine wpAnyH_take (i := 3) (v := ?_) rfl (by kernel_rfl) (by kernel_rfl) (by kernel_rfl) (fun _ _ _ h => h) (Or.inl ⟨by rfl, ?_⟩) (by assumption) ?_; rotate_left; focus (intro w hSw; (try dsimp only at hSw); go_simp; try with_reducible rfl); try simp only [Act.put, List.getElem_toArray, List.getElem_cons_succ, List.getElem_cons_zero, List.setIfInBounds_toArray, List.set_cons_zero, List.set_cons_succ])
        (refine wpAnyH_take (i := 4) (v := ?_) rfl (by kernel_rfl) (by kernel_rfl) (by kernel_rfl) (fun _ _ _ h => h) (Or.inl ⟨by rfl, ?_⟩) (by assumption) ?_; rotate_left; focus (intro w hSw; (try dsimp only at hSw); go_simp; try with_reducible rfl); try simp only [Act.put, List.getElem_toArray, List.getElem_cons_succ, List.getElem_cons_zero, List.setIfInBounds_toArray, List.set_cons_zero, List.set_cons_succ])
        (refine wpAnyH_take (i := 5) (v := ?_) rfl (by kernel_rfl) (by kernel_rfl) (by kernel_rfl) (fun _ _ _ h => h) (Or.inl ⟨by rfl, ?_⟩) (by assumption) ?_; rotate_left; focus (intro w hSw; (try dsimp only at hSw); go_simp; try with_reducible rfl); try simp only [Act.put, List.getElem_toArray, List.getElem_cons_succ, List.getElem_cons_zero, List.setIfInBounds_toArray, List.set_cons_zero, List.set_cons_succ])
        (try simp only [Act.put, List.getElem_toArray, List.getElem_cons_succ, List.getElem_cons_zero, List.setIfInBounds_toArray, List.set_cons_zero, List.set_cons_succ])
        (refine wpAnyH_ready (rs := [1]) (by kernel_rfl) (by simp) ?_; refine AllReadyH.cons rfl (fun K hK => ?_) AllReadyH.nil)
        go_simp
        go_at_call 29
        refine (all_any G s' B' V (HT3.out.1.grow HD.out).tb).mono ?_
        rintro e V2 ⟨vA, rfl, oA, EA⟩
        obtain ⟨aA, cA, rfl, _, sA, _, _⟩ := oA.open
        have cV2 : V2.cell? ⟨g.gR, 1, none⟩ = some (.slice av nv cv) := (Below.cell EA (p := ⟨g.gR, 1, none⟩) (by have := HT3.out.1.rt.ptr.lt; have := HD.out.size; show g.gR < _; omega)).trans hS0
        refine hK.out _ _ cV2 ?_
        have HA := Lib.hid (And.intro sA EA)
        clear hK K oA sA EA cV2
        intro hS1
        (try simp only [Act.put, List.getElem_toArray, List.getElem_cons_succ, List.getElem_cons_zero, List.setIfInBounds_toArray, List.set_cons_zero, List.set_cons_succ])
        (refine wpAnyH_ready (rs := [6]) (by kernel_rfl) (by simp) ?_; refine AllReadyH.cons rfl (fun K hK => ?_) AllReadyH.nil)
        go_simp
        go_at_call 24
        rw [HSV.out.2] at HA
        refine (sbinds_yes aA av nv cA cv B' V2 HA.out.1 (HSV.out.1.ext (HD.out.trans HA.out.2)) (by omega)).mono ?_
        rintro e V3 ⟨rfl, E3⟩
        have cV3 : V3.cell? ⟨g.gR, 1, none⟩ = some (.slice av nv cv) := (Below.cell E3 (p := ⟨g.gR, 1, none⟩) (by have := HT3.out.1.rt.ptr.lt; have := HD.out.size; have := HA.out.2.size; show g.gR < _; omega)).trans hS1
        refine hK.out _ _ cV3 ?_
        have EE := (HD.out.trans HA.out.2).trans E3
        have HF := Lib.hid (And.intro (HT3.out.1.grow EE) (And.intro (HT3.out.2.1.ext EE) (HT3.out.2.2.ext EE)))
        clear hK K cV3 E3 EE
        intro hS2
        (try simp only [Act.put, List.getElem_toArray, List.getElem_cons_succ, List.getElem_cons_zero, List.setIfInBounds_toArray, List.set_cons_zero, List.set_cons_succ])
        (refine wpAnyH_take (i := 7) (v := ?_) rfl (by kernel_rfl) (by kernel_rfl) (by kernel_rfl) (fun _ _ _ h => h) (Or.inl ⟨by rfl, ?_⟩) (by assumption) ?_; rotate_left; focus (intro w hSw; (try dsimp only at hSw); go_simp; try with_reducible rfl); try simp only [Act.put, List.getElem_toArray, List.getElem_cons_succ, List.getElem_cons_zero, List.setIfInBounds_toArray, List.set_cons_zero, List.set_cons_succ])
        (try simp only [Act.put, List.getElem_toArray, List.getElem_cons_succ, List.getElem_cons_zero, List.setIfInBounds_toArray, List.set_cons_zero, List.set_cons_succ])
        refine wpAnyH_done (by kernel_rfl) ?_ _
        have la := loaBd HF.out.2.1
        have lb := loaBd HF.out.2.2
        have le : ∀ W, (Op.equalIn 10000 53 (.agg (Bd.cells x)) (.agg (Bd.cells x))).run Tryd.prog W = .ok true W := fun W => by rw [run_bdEq, (bdEq_iff x x).2 rfl]
        have wk : IntKind.i64.wrap ((k : Int) + 1) = (k : Int) + 1 := IntWalk.i64_in _ (by omega)
        clear hS0 hS1 hS2
        go_wp2_with ((apply load_by rfl _ _ rfl _ rfl); (focus (with_reducible assumption)))
        go_roundw
        case rel => exact ⟨k + 1, _, s', B', by omega, by omega, by go_num, HF.out.1⟩
        case measure => simp [intOf] <;> omega
set_option maxRecDepth 100000 in
theorem lifted (os : Os) (started : os.Started) (H : Type) (enc : TypeId × Value → H) :
    ReturnsInHanded {} Tryd.checked os 4 .any (fun w args => (Rows.bindPlaysSpec.pre enc Tryd.prog Tryd.f4 [] false w args ∧ laidMetH Tryd.prog laid w) ∧ sizedMet enc Tryd.prog Tryd.f4 (OpenSpec.ofChange Rows.bindPlaysSpec) false w args)
      (Rows.bindPlaysSpec.post enc Tryd.prog Tryd.f4 false true false false) := by
  refine returnsInHanded_of_change_and (C := Tryd.checked) (X := fun w _ => laidMetH Tryd.prog laid w) (fun _ _ _ hh h => h.of_heap hh) own started (by kernel_rfl) Tryd.func4
    (ChangeSpec.witness_at (enc := enc) (C := Tryd.checked) (os := os) (X := fun w _ => laidMetH Tryd.prog laid w) false (laidWorld os) #[.int .i64 0, .slice none 0 0] 8 rfl (by kernel_rfl) (by kernel_rfl) (by kernel_rfl) (by kernel_rfl) (by kernel_rfl) (laidWorld_met os _)) ?_
  intro W base args ds gs before hval0 hW _ _ hL _
  have hval : ∀ (j : Nat) t v, Tryd.f4.params[j]? = some t → args[j]? = some v → Value.okWide Tryd.prog W .any base t v := hval0
  have hW' := hW
  obtain ⟨p, q, hA0, hV0, rfl, hfz, hnd⟩ := hW
  have hA : DataW.TrodAll enc Tryd.prog W 0 (fun _ => true) true Tryd.f4.params.toList args.toList ds p := hA0
  have hV : DataW.TrodVars enc Tryd.prog W (fun _ => true) [] gs q := hV0
  have hg := handle_of_laid hL
  rw [Tryd.params4] at hA hval
  obtain ⟨v0, vs0, d0, ds0, p0, q0, hargs, rfl, rfl, h0, r0⟩ := trodAll_cons hA
  obtain ⟨v1, vs1, d1, ds1, p1, q1, rfl, rfl, rfl, h1, r1⟩ := trodAll_cons r0
  obtain ⟨rfl, rfl, rfl⟩ := trodAll_nil r1
  obtain rfl : args = #[v0, v1] := by cases args; simp_all
  obtain ⟨rfl, rfl⟩ := vars_nil hV
  have lt0 : ∀ x ∈ p0, x.block < W.heap.size := by obtain ⟨m, hm⟩ := h0; exact DataW.trod_lt m _ _ _ hm
  have k0 := h0
  obtain ⟨x0, rfl, _, _, w0'⟩ := open_int Tryd.underlying3 (hval 0 3 v0 rfl rfl) h0
  have w0 : IsInt x0 := wf_i64 w0'
  have lt1 : ∀ x ∈ p1, x.block < W.heap.size := by obtain ⟨m, hm⟩ := h1; exact DataW.trod_lt m _ _ _ hm
  have k1 := h1
  obtain ⟨a1, n1, c1, rfl⟩ := okWide_slice Tryd.underlying40 (hval 1 40 v1 rfl rfl)
  obtain ⟨l1, w1⟩ := open_steps h1
  clear hA0 hval0
  refine (walk x0 a1 n1 c1 l1 W hg w0 w1).mono fun e W' ⟨he, bel⟩ => ?_
  subst he
  exact ⟨_, rfl, _, _, _, [], _, [], hW', trodAll_mk1 (shut_bool Tryd.underlying4 _), (trodAll_cons_mk (Below.trod laidOut (by kernel_rfl) (of_decide_eq_true (by kernel_rfl)) k0 bel lt0) (trodAll_cons_mk (Below.trod laidOut (by kernel_rfl) (of_decide_eq_true (by kernel_rfl)) k1 bel lt1) trodAll_mk0)), rfl, bel.frame _, fun h => by cases h⟩

theorem over : Rows.bindPlaysRow.holds Tryd.pinned (OpenSpec.ofChange Rows.bindPlaysSpec) :=
  OpenClaim.holds_of_wide 4 Tryd.f4 rfl rfl rfl rfl rfl rfl rfl ⟨rfl, rfl, rfl, rfl, rfl⟩ rfl rfl rfl rfl rfl (by kernel_rfl) Tryd.func4 (by kernel_rfl)
    (of_decide_eq_true (by kernel_rfl)) (by unfold Func.isWrapper; first | (rw [if_pos (by decide +kernel)]; kernel_rfl) | (rw [if_neg (by decide +kernel)]; exact ⟨rfl, rfl⟩))
    (fun os started H enc _ => lifted os started H enc)

/-- THE STATEMENT. -/
theorem proved : Rows.BindPlaysCardSaid :=
  Claim7.holds_tied_plain_at .later [] _ _ _ _
    over (fun _ h => by cases h) (by kernel_rfl) (fun _ h => by cases h) bindPlays_row_tie rfl ⟨rfl, rfl⟩ (by kernel_rfl) rfl
    (fun f fn hf hfn => by
      obtain rfl : f = 4 := Option.some.inj ((show Tryd.prog.funcNamed "gangplank/gangplanklaw2.BindPlays" = some 4 by kernel_rfl).symm.trans hf) |>.symm
      obtain rfl : fn = Tryd.f4 := (Option.some.inj (Tryd.func4.symm.trans hfn)).symm
      exact ⟨by kernel_rfl, fun j t ht => by
        rw [Tryd.params4] at ht
        have hall : ((#[3, 40] : Array Nat).all fun t => !Tryd.prog.wantsStandIn t) = true := by kernel_rfl
        have := Array.all_eq_true'.1 hall t (Array.mem_of_getElem? ht)
        show Tryd.prog.wantsStandIn t = false
        simpa using this⟩)
    (by kernel_rfl)
#print axioms proved
end Go.Proofs.YtefdhlmljocnkaaDoor.bindPlays
