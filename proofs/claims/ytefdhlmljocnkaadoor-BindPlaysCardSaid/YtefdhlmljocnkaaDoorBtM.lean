/- A table of binds, plain: a bind that is made, binds that expire. Conditions: as each lemma states them. -/
import Derived.Test.YtefdhlmljocnkaaDoorBt
namespace Go.Proofs.YtefdhlmljocnkaaDoor
open Go.RowKit
/-- A bind among binds, by its port. -/
def insB (b : Bd) : List Bd → List Bd
  | [] => [b]
  | x :: r => if b.near < x.near then b :: x :: r else x :: insB b r
theorem insB_perm (b : Bd) : ∀ B, (insB b B).Perm (b :: B)
  | [] => List.Perm.refl _
  | x :: r => by
    unfold insB
    split
    · exact List.Perm.refl _
    · exact ((insB_perm b r).cons x).trans (List.Perm.swap b x r)
theorem insB_sorted (b : Bd) : ∀ {B : List Bd}, B.Pairwise (fun a b => a.near < b.near) → (∀ x ∈ B, x.near ≠ b.near) → (insB b B).Pairwise fun a b => a.near < b.near
  | [], _, _ => List.pairwise_singleton _ _
  | x :: r, h, hn => by
    unfold insB
    rw [List.pairwise_cons] at h
    split
    · rename_i hlt
      rw [List.pairwise_cons, List.pairwise_cons]
      exact ⟨fun y hy => by rcases List.mem_cons.1 hy with rfl | hy; exact hlt; have := h.1 y hy; omega, h⟩
    · rename_i hlt
      rw [List.pairwise_cons]
      refine ⟨fun y hy => ?_, insB_sorted b h.2 fun y hy => hn y (List.mem_cons_of_mem _ hy)⟩
      rcases List.mem_cons.1 ((insB_perm b r).mem_iff.1 hy) with rfl | hy
      · have := hn x (List.mem_cons_self ..); omega
      · exact h.1 y hy
/-- The fault of Make. -/
def okA (n : Int) : Bool := decide (0 ≤ n) && decide (n < 4294967296)
theorem okA_iff {n : Int} : okA n = true ↔ 0 ≤ n ∧ n < 4294967296 := by unfold okA; simp
def bMakeQ (f : Flow) (back far now : Int) (s : PS) (B : List Bd) : Int :=
  if okF f = true then (if (okA back && (w16 far && okT now)) = true then (if (findF f B).isSome = true then 8 else s.takeQ f.client) else 1) else 1
def newBd (f : Flow) (back far now : Int) (s : PS) : Bd := ⟨f, s.takeN f.client, back, far, now⟩
theorem Inv.make {s : PS} {B : List Bd} (h : Inv s B) {f : Flow} {back far now : Int} (hf : f.Ok) (hb : 0 ≤ back ∧ back < 4294967296) (hw : 0 ≤ far ∧ far ≤ 65535) (ht : 0 ≤ now ∧ now ≤ 1099511627776) (hn : findF f B = none) (hq : s.takeQ f.client = 0) :
    Inv (s.take f.client) (insB (newBd f back far now s) B) ∧ findN (s.takeN f.client) B = none := by
  obtain ⟨h1, h2, h3, h4⟩ := h.pa.take hq
  have hnear : (newBd f back far now s).near = 1024 + (PA.gets s f.client : Int) := h2
  have hpt : (newBd f back far now s).pt = (PA.gets s f.client, f.client) := by
    unfold Bd.pt
    rw [hnear]
    have : (1024 + (PA.gets s f.client : Int) - 1024).toNat = PA.gets s f.client := by omega
    rw [this]
    rfl
  have hpa : PA (s.take f.client) ((newBd f back far now s :: B).map Bd.pt) := by
    refine h1.perm ?_
    rw [List.map_cons, hpt]
    exact List.perm_append_singleton _ _
  have hne : ∀ x ∈ B, x.near ≠ (newBd f back far now s).near := fun x hx he => by
    have hnd := hpa.nd
    rw [List.map_map, List.map_cons, List.nodup_cons] at hnd
    refine hnd.1 (List.mem_map.2 ⟨x, hx, ?_⟩)
    dsimp only [Function.comp, Bd.pt]
    rw [he]
  have hfl : ∀ x ∈ B, x.flow ≠ f := findF_none hn
  refine ⟨⟨Inv0.perm (B := newBd f back far now s :: B) ⟨?_, ?_, ?_, hpa, ?_⟩ (insB_perm _ _).symm, insB_sorted _ h.sorted hne⟩, ?_⟩
  · rw [List.map_cons, List.nodup_cons]
    refine ⟨fun hm => ?_, h.nears⟩
    obtain ⟨x, hx, he⟩ := List.mem_map.1 hm
    exact hne x hx he
  · rw [List.map_cons, List.nodup_cons]
    refine ⟨fun hm => ?_, h.flows⟩
    obtain ⟨x, hx, he⟩ := List.mem_map.1 hm
    exact hfl x hx he
  · intro b hb
    rcases List.mem_cons.1 hb with rfl | hb
    · rw [hnear]; omega
    · exact h.low b hb
  · intro b hbm
    rcases List.mem_cons.1 hbm with rfl | hbm
    · exact ⟨hf, hb, hw, ht⟩
    · exact h.ok b hbm
  · cases hc : findN (s.takeN f.client) B with
    | none => rfl
    | some b =>
      obtain ⟨g1, g2⟩ := findN_some hc
      exact absurd g2 (hne b g1)
/-- Is a bind's time over? -/
def life (k : Int) : Int := if k = 6 then 100 else 30
def past (now : Int) (b : Bd) : Bool := !decide (now - b.last < life b.flow.kind)
def outB (now : Int) (B : List Bd) : List Bd := B.filter (past now)
def restB (now : Int) (B : List Bd) : List Bd := B.filter fun b => !past now b
/-- Ports given back. -/
def PS.backs (s : PS) (B : List Bd) : PS := { s with tk := fun i => s.tk i && !(B.any fun b => (b.near - 1024).toNat == i) }
theorem PS.backs_nil (s : PS) : s.backs [] = s := by
  unfold PS.backs
  cases s
  simp
theorem PS.backs_add (s : PS) (B : List Bd) (b : Bd) (h : (s.backs B).has b.near = true) : (s.backs B).back b.near = s.backs (B ++ [b]) := by
  unfold PS.back
  rw [if_pos h]
  unfold PS.set PS.backs
  congr 1
  funext i
  unfold Pl.upd
  rw [List.any_append]
  by_cases hi : i = (b.near - 1024).toNat
  · subst hi; simp
  · have : ((b.near - 1024).toNat == i) = false := by simp; omega
    simp [hi, this]
theorem PS.backs_perm (s : PS) {B C : List Bd} (p : B.Perm C) : s.backs B = s.backs C := by
  unfold PS.backs
  congr 1
  funext i
  rw [p.any_eq]
/-- One bind goes. -/
theorem Inv0.drop {s : PS} {l m : List Bd} {b : Bd} (h : Inv0 s (l ++ b :: m)) : Inv0 (s.back b.near) (l ++ m) := by
  have hb : b ∈ l ++ b :: m := by simp
  obtain ⟨i, hi, _⟩ := h.near hb
  have hs : (l ++ m).Sublist (l ++ b :: m) := (List.sublist_cons_self b m).append_left l
  have hp : b.pt.1 = i := by unfold Bd.pt; dsimp only; omega
  have hpa := h.pa
  rw [List.map_append, List.map_cons] at hpa
  have h1 := hpa.back.1
  rw [hp, ← hi] at h1
  refine ⟨h.nears.sublist (hs.map _), h.flows.sublist (hs.map _), fun x hx => h.low x (hs.subset hx), ?_, fun x hx => h.ok x (hs.subset hx)⟩
  rw [List.map_append]
  exact h1
/-- Two lists of binds by their ports that have the same. -/
theorem sorted_eq : ∀ {B C : List Bd}, B.Perm C → B.Pairwise (fun a b => a.near < b.near) → C.Pairwise (fun a b => a.near < b.near) → B = C
  | [], C, p, _, _ => (List.nil_perm.1 p).symm
  | b :: B, [], p, _, _ => absurd p.length_eq (by simp)
  | b :: B, c :: C, p, h, k => by
    rw [List.pairwise_cons] at h k
    have e : b = c := by
      rcases List.mem_cons.1 (p.mem_iff.1 (List.mem_cons_self (a := b) (l := B))) with e | hb
      · exact e
      · rcases List.mem_cons.1 (p.mem_iff.2 (List.mem_cons_self (a := c) (l := C))) with e | hc
        · exact e.symm
        · have h1 := h.1 c hc
          have h2 := k.1 b hb
          omega
    subst e
    rw [sorted_eq (List.perm_cons b |>.1 p) h.2 k.2]
end Go.Proofs.YtefdhlmljocnkaaDoor
