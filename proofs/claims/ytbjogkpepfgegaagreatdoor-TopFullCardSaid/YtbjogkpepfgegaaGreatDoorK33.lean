/- A table of binds by its binds alone, in the order of their ports. Conditions: as each lemma states them. -/
import Derived.Test.YtbjogkpepfgegaaGreatDoorK26
import Derived.Test.YtbjogkpepfgegaaGreatDoorK30
import Derived.Test.YtbjogkpepfgegaaGreatDoorK22
import Derived.Test.YtbjogkpepfgegaaGreatDoorK16
namespace Go.Proofs.YtbjogkpepfgegaaGreatDoor
open Go.RowKit
/-- A bind's port and client. -/
def Bd.pt (b : Bd) : Nat × Six := ((b.near - 1024).toNat, b.flow.client)
/-- May a tick be. -/
def okT (n : Int) : Bool := decide (0 ≤ n) && decide (n ≤ 1099511627776)
theorem okT_iff {n : Int} : okT n = true ↔ 0 ≤ n ∧ n ≤ 1099511627776 := by unfold okT; simp
def Bd.Ok (b : Bd) : Prop := b.flow.Ok ∧ (0 ≤ b.back ∧ b.back < 4294967296) ∧ (0 ≤ b.far ∧ b.far ≤ 65535) ∧ (0 ≤ b.last ∧ b.last ≤ 1099511627776)
/-- Binds as they stand, in whatever order: each port once, each flow once, each port its client's. -/
structure Inv0 (s : PS) (B : List Bd) : Prop where
  nears : (B.map (·.near)).Nodup
  flows : (B.map (·.flow)).Nodup
  low : ∀ b ∈ B, 1024 ≤ b.near
  pa : PA s (B.map Bd.pt)
  ok : ∀ b ∈ B, b.Ok
/-- Binds by their ports. -/
structure Inv (s : PS) (B : List Bd) : Prop extends Inv0 s B where
  sorted : B.Pairwise fun a b => a.near < b.near
theorem PA.perm {s : PS} {q r : List (Nat × Six)} (h : PA s q) (p : q.Perm r) : PA s r :=
  ⟨fun x hx => h.mem x (p.mem_iff.2 hx), (p.map _).nodup h.nd, h.many.trans p.length_eq⟩
theorem Inv0.perm {s : PS} {B C : List Bd} (h : Inv0 s B) (p : B.Perm C) : Inv0 s C :=
  ⟨(p.map _).nodup h.nears, (p.map _).nodup h.flows, fun b hb => h.low b (p.mem_iff.2 hb), h.pa.perm (p.map _), fun b hb => h.ok b (p.mem_iff.2 hb)⟩
theorem Inv.zero (n : Nat) : Inv (PS.zero n) [] := ⟨⟨List.nodup_nil, List.nodup_nil, fun _ h => (by cases h), PA.zero n, fun _ h => (by cases h)⟩, List.Pairwise.nil⟩
theorem Inv0.near {s : PS} {B : List Bd} (h : Inv0 s B) {b : Bd} (hb : b ∈ B) : ∃ i : Nat, b.near = 1024 + (i : Int) ∧ i < 8 * s.n ∧ s.tk i = true ∧ s.own (i / 8) = b.flow.client := by
  have := h.low b hb
  obtain ⟨h1, h2, h3⟩ := h.pa.mem b.pt (List.mem_map_of_mem hb)
  exact ⟨(b.near - 1024).toNat, by omega, h1, h2, h3⟩
theorem Inv0.has {s : PS} {B : List Bd} (h : Inv0 s B) {b : Bd} (hb : b ∈ B) : s.has b.near = true := by
  obtain ⟨i, h0, h1, h2, _⟩ := h.near hb
  rw [h0]
  exact PS.has_of h1 h2
/-- The bind at a port; of a flow. -/
def findN (k : Int) (B : List Bd) : Option Bd := B.find? fun b => b.near == k
def findF (f : Flow) (B : List Bd) : Option Bd := B.find? fun b => flowEq b.flow f
theorem findN_some {k : Int} {B : List Bd} {b : Bd} (h : findN k B = some b) : b ∈ B ∧ b.near = k := ⟨List.mem_of_find?_eq_some h, by have := List.find?_some h; simpa using this⟩
theorem findN_none {k : Int} {B : List Bd} (h : findN k B = none) : ∀ b ∈ B, b.near ≠ k := fun b hb he => by have := List.find?_eq_none.1 h b hb; simp [he] at this
theorem findF_some {f : Flow} {B : List Bd} {b : Bd} (h : findF f B = some b) : b ∈ B ∧ b.flow = f := ⟨List.mem_of_find?_eq_some h, (flowEq_iff _ _).1 (List.find?_some (p := fun b : Bd => flowEq b.flow f) h)⟩
theorem findF_none {f : Flow} {B : List Bd} (h : findF f B = none) : ∀ b ∈ B, b.flow ≠ f := fun b hb he => by have := List.find?_eq_none.1 h b hb; exact this ((flowEq_iff _ _).2 he)
theorem findN_of {s : PS} {B : List Bd} (h : Inv0 s B) {b : Bd} (hb : b ∈ B) : findN b.near B = some b := by
  cases hf : findN b.near B with
  | none => exact absurd rfl (findN_none hf b hb)
  | some c =>
    obtain ⟨h1, h2⟩ := findN_some hf
    obtain ⟨i, hi⟩ := List.mem_iff_getElem?.1 hb
    obtain ⟨j, hj⟩ := List.mem_iff_getElem?.1 h1
    have hij := (List.getElem?_inj (i := i) (j := j) (by simp only [List.length_map]; exact (List.getElem?_eq_some_iff.1 hi).1) h.nears).1 (by rw [List.getElem?_map, List.getElem?_map, hi, hj]; simp [h2])
    rw [← hij, hi] at hj
    exact hj.symm
theorem findF_of {s : PS} {B : List Bd} (h : Inv0 s B) {b : Bd} (hb : b ∈ B) : findF b.flow B = some b := by
  cases hf : findF b.flow B with
  | none => exact absurd rfl (findF_none hf b hb)
  | some c =>
    obtain ⟨h1, h2⟩ := findF_some hf
    obtain ⟨i, hi⟩ := List.mem_iff_getElem?.1 hb
    obtain ⟨j, hj⟩ := List.mem_iff_getElem?.1 h1
    have hij := (List.getElem?_inj (i := i) (j := j) (by simp only [List.length_map]; exact (List.getElem?_eq_some_iff.1 hi).1) h.flows).1 (by rw [List.getElem?_map, List.getElem?_map, hi, hj]; simp [h2])
    rw [← hij, hi] at hj
    exact hj.symm
/-- The entries behind binds. -/
theorem near_look {s : PS} {B : List Bd} {l : List Te} (h : Inv0 s B) (p : (l.map Te.b).Perm B) (k : Int) :
    (∀ b, findN k B = some b → ∃ i x, l[i]? = some x ∧ x.b = b ∧ nearIn k l = some (i, b.v)) ∧ (findN k B = none → nearIn k l = none) := by
  constructor
  · intro b hb
    obtain ⟨h1, h2⟩ := findN_some hb
    obtain ⟨x, hx, hxb⟩ := List.mem_map.1 (p.mem_iff.2 h1)
    obtain ⟨i, hi⟩ := List.mem_iff_getElem?.1 hx
    refine ⟨i, x, hi, hxb, ?_⟩
    have hnd : ((l.map Te.inN).map (·.key)).Nodup := by
      rw [List.map_map]
      have := (p.map (·.near)).symm.nodup h.nears
      rw [List.map_map] at this
      exact this
    have := look_here (K := keyI) (x := x.inN) (o := 0) (i := i) hnd (by rw [List.getElem?_map, hi]; rfl)
    rw [Nat.zero_add] at this
    unfold nearIn
    rw [← h2, ← hxb]
    exact this
  · intro hb
    refine look_of fun x hx => ?_
    obtain ⟨y, hy, rfl⟩ := List.mem_map.1 hx
    exact findN_none hb y.b (p.mem_iff.1 (List.mem_map_of_mem hy))
theorem flow_look {s : PS} {B : List Bd} {l : List Te} (h : Inv0 s B) (p : (l.map Te.b).Perm B) (f : Flow) :
    (∀ b, findF f B = some b → ∃ i x, l[i]? = some x ∧ x.b = b ∧ keyF.look f (l.map Te.inF) 0 = some (i, .int .i64 b.near)) ∧ (findF f B = none → keyF.look f (l.map Te.inF) 0 = none) := by
  constructor
  · intro b hb
    obtain ⟨h1, h2⟩ := findF_some hb
    obtain ⟨x, hx, hxb⟩ := List.mem_map.1 (p.mem_iff.2 h1)
    obtain ⟨i, hi⟩ := List.mem_iff_getElem?.1 hx
    refine ⟨i, x, hi, hxb, ?_⟩
    have hnd : ((l.map Te.inF).map (·.key)).Nodup := by
      rw [List.map_map]
      have := (p.map (·.flow)).symm.nodup h.flows
      rw [List.map_map] at this
      exact this
    have := look_here (K := keyF) (x := x.inF) (o := 0) (i := i) hnd (by rw [List.getElem?_map, hi]; rfl)
    rw [Nat.zero_add] at this
    rw [← h2, ← hxb]
    exact this
  · intro hb
    refine look_of fun x hx => ?_
    obtain ⟨y, hy, rfl⟩ := List.mem_map.1 hx
    exact findF_none hb y.b (p.mem_iff.1 (List.mem_map_of_mem hy))
/-- Where a table lies. -/
structure TG where
  gT : Nat
  gP : Nat
  gB : Nat
  gF : Nat
  gN : Nat
def TG.all (G : TG) : List Nat := [G.gT, G.gP, G.gB, G.gF, G.gN]
def TG.mut (G : TG) : List Nat := [G.gB, G.gF, G.gN]
/-- A table lies in memory. -/
structure TB (w : World) (G : TG) (s : PS) (B : List Bd) : Prop where
  ex : ∃ l cF cN, Tab w G.gT G.gP G.gB G.gF G.gN s l cF cN ∧ (l.map Te.b).Perm B ∧ (l.map Te.sN).Nodup
  inv : Inv s B
theorem TB.kp {w w' : World} {G : TG} {s : PS} {B : List Bd} {S : List Nat} (h : TB w G s B) (k : Kp S w w') (hS : ∀ g ∈ G.all, g ∉ S) : TB w' G s B := by
  obtain ⟨l, cF, cN, ht, p, hnd⟩ := h.ex
  exact ⟨⟨l, cF, cN, ⟨ht.ptr.kp k (hS _ (by simp [TG.all])), ht.prt.kp k (hS _ (by simp [TG.all])) (hS _ (by simp [TG.all])), ht.flows.kp k (hS _ (by simp [TG.all])), ht.nears.kp k (hS _ (by simp [TG.all])), ht.apart⟩, p, hnd⟩, h.inv⟩
theorem TB.ext {w w' : World} {G : TG} {s : PS} {B : List Bd} (h : TB w G s B) (k : Ext w w') : TB w' G s B := h.kp (k.kp []) fun _ _ hm => by cases hm
theorem TB.lt {w : World} {G : TG} {s : PS} {B : List Bd} (h : TB w G s B) : ∀ g ∈ G.all, g < w.heap.size := by
  obtain ⟨l, cF, cN, ht, p, hnd⟩ := h.ex
  intro g hg
  simp [TG.all] at hg
  rcases hg with rfl | rfl | rfl | rfl | rfl
  · exact ht.ptr.lt
  · exact ht.prt.ptr.lt
  · exact ht.prt.row.lt
  · exact ht.flows.lt
  · exact ht.nears.lt
/-- Near, whole. -/
def bNear (kind near : Int) (B : List Bd) : Option Bd := (findN near B).filter fun b => b.flow.kind == kind
theorem near_any (G : TG) (s : PS) (B : List Bd) (kind near : Int) (w : World) (h : TB w G s B) :
    Calls Tryz.prog 42 #[.pointer (some ⟨G.gT, 0, none⟩), .int .i64 kind, .int .i64 near] w fun e w' => e = .returned (.tuple #[((bNear kind near B).getD zeroBd).v, erv (if (bNear kind near B).isSome = true then 0 else 4)]) ∧ Ext w w' := by
  obtain ⟨l, cF, cN, ht, p, hnd⟩ := h.ex
  obtain ⟨h1, h2⟩ := near_look h.inv.toInv0 p near
  cases hf : findN near B with
  | none =>
    have e : bNear kind near B = none := by unfold bNear; rw [hf]; rfl
    rw [e]
    exact tnear_none _ _ _ _ _ s l cF cN kind near w ht (h2 hf)
  | some b =>
    obtain ⟨i, x, _, _, hn⟩ := h1 b hf
    refine (tnear_some _ _ _ _ _ s l cF cN kind near w ht i b hn).mono ?_
    rintro e w' ⟨rfl, E⟩
    refine ⟨?_, E⟩
    unfold bNear
    rw [hf]
    by_cases hk : b.flow.kind = kind
    · simp [hk, Option.filter, erv]
    · simp [hk, Option.filter, erv]
/-- Find, whole. -/
def bFindQ (f : Flow) (B : List Bd) : Int := if okF f = true then (if (findF f B).isSome = true then 0 else 4) else 1
def bFind (f : Flow) (B : List Bd) : Bd := if okF f = true then (findF f B).getD zeroBd else zeroBd
theorem find_any (G : TG) (s : PS) (B : List Bd) (f : Flow) (w : World) (h : TB w G s B) :
    Calls Tryz.prog 67 #[.pointer (some ⟨G.gT, 0, none⟩), f.v] w fun e w' => e = .returned (.tuple #[(bFind f B).v, erv (bFindQ f B)]) ∧ Ext w w' := by
  obtain ⟨l, cF, cN, ht, p, hnd⟩ := h.ex
  obtain ⟨h1, h2⟩ := flow_look h.inv.toInv0 p f
  by_cases ho : okF f = true
  · have hf := okF_iff.1 ho
    cases hb : findF f B with
    | none =>
      unfold bFind bFindQ
      rw [if_pos ho, if_pos ho, hb]
      exact tfind_none _ _ _ _ _ s l cF cN f w ht hf (h2 hb)
    | some b =>
      obtain ⟨i, x, hx, hxb, hn⟩ := h1 b hb
      have hbn := findN_of h.inv.toInv0 (findF_some hb).1
      obtain ⟨j, y, _, _, hm⟩ := (near_look h.inv.toInv0 p b.near).1 b hbn
      unfold bFind bFindQ
      rw [if_pos ho, if_pos ho, hb]
      exact tfind_some _ _ _ _ _ s l cF cN f w ht hf i j b.near b hn hm
  · have hf : ¬ f.Ok := fun h => ho (okF_iff.2 h)
    unfold bFind bFindQ
    rw [if_neg ho, if_neg ho]
    exact tfind_bad _ _ _ _ _ s l cF cN f w ht hf
/-- Use, plain. -/
def useB (near now : Int) (B : List Bd) : List Bd := B.map fun b => if b.near = near then b.at now else b
def bUseQ (near now : Int) (B : List Bd) : Int := match findN near B with | none => 4 | some b => if okT now = true then (if now < b.last then 9 else 0) else 1
theorem useB_near (near now : Int) (B : List Bd) : (useB near now B).map (·.near) = B.map (·.near) := by
  unfold useB
  rw [List.map_map]
  refine List.map_congr_left fun b _ => ?_
  dsimp only [Function.comp]
  split <;> rfl
theorem useB_flow (near now : Int) (B : List Bd) : (useB near now B).map (·.flow) = B.map (·.flow) := by
  unfold useB
  rw [List.map_map]
  refine List.map_congr_left fun b _ => ?_
  dsimp only [Function.comp]
  split <;> rfl
theorem useB_pt (near now : Int) (B : List Bd) : (useB near now B).map Bd.pt = B.map Bd.pt := by
  unfold useB
  rw [List.map_map]
  refine List.map_congr_left fun b _ => ?_
  dsimp only [Function.comp]
  split <;> rfl
theorem Inv.use {s : PS} {B : List Bd} (h : Inv s B) (near now : Int) (hn : okT now = true) : Inv s (useB near now B) := by
  have ht := okT_iff.1 hn
  refine ⟨⟨?_, ?_, ?_, ?_, ?_⟩, ?_⟩
  · rw [useB_near]; exact h.nears
  · rw [useB_flow]; exact h.flows
  · intro b hb
    obtain ⟨c, hc, rfl⟩ := List.mem_map.1 hb
    have := h.low c hc
    split <;> exact this
  · rw [useB_pt]; exact h.pa
  · intro b hb
    obtain ⟨c, hc, rfl⟩ := List.mem_map.1 hb
    have := h.ok c hc
    split
    · exact ⟨this.1, this.2.1, this.2.2.1, ht⟩
    · exact this
  · have := h.sorted
    rw [← List.pairwise_map (f := Bd.near) (R := fun a b => a < b)] at this ⊢
    rw [useB_near]
    exact this
theorem useT_perm {s : PS} {B : List Bd} {l : List Te} (h : Inv0 s B) (p : (l.map Te.b).Perm B) {i : Nat} {x : Te} (hx : l[i]? = some x) (near now : Int) (hn : x.b.near = near) : ((useT l i now).map Te.b).Perm (useB near now B) := by
  have e : (useT l i now).map Te.b = (l.map Te.b).map fun b => if b.near = near then b.at now else b := by
    have hnd := (p.map (·.near)).symm.nodup h.nears
    refine List.ext_getElem? fun j => ?_
    unfold useT
    rw [List.getElem?_map, List.getElem?_modify, List.getElem?_map, List.getElem?_map]
    by_cases hj : i = j
    · subst hj
      rw [hx]
      simp [hn]
    · cases hy : l[j]? with
      | none => simp
      | some y =>
        have : y.b.near ≠ near := fun he => by
          exact hj ((List.getElem?_inj (i := i) (j := j) (by simp only [List.length_map]; exact (List.getElem?_eq_some_iff.1 hx).1) hnd).1 (by simp [hx, hy, hn, he]))
        simp [hj, this]
  rw [e]
  exact p.map _
theorem useT_stamp (l : List Te) (i : Nat) (now : Int) : (useT l i now).map Te.sN = l.map Te.sN := by
  refine List.ext_getElem? fun j => ?_
  unfold useT
  rw [List.getElem?_map, List.getElem?_modify, List.getElem?_map]
  by_cases hj : i = j
  · subst hj
    cases l[i]? <;> simp
  · simp [hj]
theorem Kp.put {κ : Type} {K : Keys κ} {S : List Nat} {a b : World} (h : Kp S a b) {g : Nat} (hg : g ∈ S) (l : List (Ent κ)) (c : Nat) : Kp S a (putMap K b g l c) := h.trans (Kp.ofGrown (putMap_grown K b g l c) hg)
/-- Use, whole. -/
theorem use_any (G : TG) (s : PS) (B : List Bd) (near now : Int) (w : World) (h : TB w G s B) :
    Calls Tryz.prog 43 #[.pointer (some ⟨G.gT, 0, none⟩), .int .i64 near, .int .i64 now] w fun e w' => e = .returned (erv (bUseQ near now B)) ∧ TB w' G s (if bUseQ near now B = 0 then useB near now B else B) ∧ Kp G.mut w w' := by
  obtain ⟨l, cF, cN, ht, p, hnd⟩ := h.ex
  obtain ⟨h1, h2⟩ := near_look h.inv.toInv0 p near
  cases hf : findN near B with
  | none =>
    have e : bUseQ near now B = 4 := by unfold bUseQ; rw [hf]
    rw [e]
    refine (tuse_none _ _ _ _ _ s l cF cN near now w ht (h2 hf)).mono ?_
    rintro e w' ⟨rfl, E⟩
    exact ⟨rfl, h.ext E, E.kp _⟩
  | some b =>
    obtain ⟨i, x, hx, hxb, hn⟩ := h1 b hf
    by_cases ho : okT now = true
    · by_cases hl : now < b.last
      · have e : bUseQ near now B = 9 := by unfold bUseQ; rw [hf]; dsimp only; rw [if_pos ho, if_pos hl]
        rw [e]
        refine (tuse_past _ _ _ _ _ s l cF cN near now w ht i b hn ho hl).mono ?_
        rintro e w' ⟨rfl, E⟩
        exact ⟨rfl, h.ext E, E.kp _⟩
      · have e : bUseQ near now B = 0 := by unfold bUseQ; rw [hf]; dsimp only; rw [if_pos ho, if_neg hl]
        rw [e]
        refine (tuse_put _ _ _ _ _ s l cF cN near now w ht i b hn ho hl).mono ?_
        rintro e w' ⟨rfl, W, E, rfl⟩
        refine ⟨rfl, ⟨⟨useT l i now, cF, cN, ?_, useT_perm h.inv.toInv0 p hx near now ?_, by rw [useT_stamp]; exact hnd⟩, h.inv.use near now ho⟩, (E.kp _).put (by simp [TG.mut]) _ _⟩
        · have := ht.use E i now x hx
          rw [hxb] at this
          exact this
        · rw [hxb]; exact (findN_some hf).2
    · have e : bUseQ near now B = 1 := by unfold bUseQ; rw [hf]; dsimp only; rw [if_neg ho]
      rw [e]
      refine (tuse_tick _ _ _ _ _ s l cF cN near now w ht i b hn (by simpa [okT] using ho)).mono ?_
      rintro e w' ⟨rfl, E⟩
      exact ⟨rfl, h.ext E, E.kp _⟩
end Go.Proofs.YtbjogkpepfgegaaGreatDoor
