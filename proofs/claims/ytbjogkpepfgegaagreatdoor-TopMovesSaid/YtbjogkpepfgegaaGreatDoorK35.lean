/- Lemmas of this seat, bound together: BtM Gpl TabW Gw G6l BdRow. Conditions: as each lemma states them. -/
import Derived.Test.YtbjogkpepfgegaaGreatDoorK33
import Derived.Test.YtbjogkpepfgegaaGreatDoorK18
import Derived.Test.YtbjogkpepfgegaaGreatDoorK04
import Derived.Test.YtbjogkpepfgegaaGreatDoorK34
import Derived.Test.YtbjogkpepfgegaaGreatDoorK06
import Derived.Test.YtbjogkpepfgegaaGreatDoorK05
import Derived.Test.YtbjogkpepfgegaaGreatDoorK16
import Derived.Test.YtbjogkpepfgegaaGreatDoorK10
import Derived.Test.YtbjogkpepfgegaaGreatDoorK32
import Derived.Test.YtbjogkpepfgegaaGreatDoorK23
import Derived.Test.YtbjogkpepfgegaaGreatDoorK17
namespace Go.Proofs.YtbjogkpepfgegaaGreatDoor
open Go.RowKit
/-- A bind among binds, by its port. -/
def insB (b : Bd) : List Bd → List Bd
  | [] => [b]
  | x :: r => if b.near < x.near then b :: x :: r else x :: insB b r
theorem insB_perm (b : Bd) : ∀ B, (insB b B).Perm (b :: B)
  | [] => List.Perm.refl _
  | x :: r => by
    unfold insB
    split
    · exact List.Perm.refl _
    · exact ((insB_perm b r).cons x).trans (List.Perm.swap b x r)
theorem insB_sorted (b : Bd) : ∀ {B : List Bd}, B.Pairwise (fun a b => a.near < b.near) → (∀ x ∈ B, x.near ≠ b.near) → (insB b B).Pairwise fun a b => a.near < b.near
  | [], _, _ => List.pairwise_singleton _ _
  | x :: r, h, hn => by
    unfold insB
    rw [List.pairwise_cons] at h
    split
    · rename_i hlt
      rw [List.pairwise_cons, List.pairwise_cons]
      exact ⟨fun y hy => by rcases List.mem_cons.1 hy with rfl | hy; exact hlt; have := h.1 y hy; omega, h⟩
    · rename_i hlt
      rw [List.pairwise_cons]
      refine ⟨fun y hy => ?_, insB_sorted b h.2 fun y hy => hn y (List.mem_cons_of_mem _ hy)⟩
      rcases List.mem_cons.1 ((insB_perm b r).mem_iff.1 hy) with rfl | hy
      · have := hn x (List.mem_cons_self ..); omega
      · exact h.1 y hy
/-- The fault of Make. -/
def okA (n : Int) : Bool := decide (0 ≤ n) && decide (n < 4294967296)
theorem okA_iff {n : Int} : okA n = true ↔ 0 ≤ n ∧ n < 4294967296 := by unfold okA; simp
def bMakeQ (f : Flow) (back far now : Int) (s : PS) (B : List Bd) : Int :=
  if okF f = true then (if (okA back && (w16 far && okT now)) = true then (if (findF f B).isSome = true then 8 else s.takeQ f.client) else 1) else 1
def newBd (f : Flow) (back far now : Int) (s : PS) : Bd := ⟨f, s.takeN f.client, back, far, now⟩
theorem Inv.make {s : PS} {B : List Bd} (h : Inv s B) {f : Flow} {back far now : Int} (hf : f.Ok) (hb : 0 ≤ back ∧ back < 4294967296) (hw : 0 ≤ far ∧ far ≤ 65535) (ht : 0 ≤ now ∧ now ≤ 1099511627776) (hn : findF f B = none) (hq : s.takeQ f.client = 0) :
    Inv (s.take f.client) (insB (newBd f back far now s) B) ∧ findN (s.takeN f.client) B = none := by
  obtain ⟨h1, h2, h3, h4⟩ := h.pa.take hq
  have hnear : (newBd f back far now s).near = 1024 + (PA.gets s f.client : Int) := h2
  have hpt : (newBd f back far now s).pt = (PA.gets s f.client, f.client) := by
    unfold Bd.pt
    rw [hnear]
    have : (1024 + (PA.gets s f.client : Int) - 1024).toNat = PA.gets s f.client := by omega
    rw [this]
    rfl
  have hpa : PA (s.take f.client) ((newBd f back far now s :: B).map Bd.pt) := by
    refine h1.perm ?_
    rw [List.map_cons, hpt]
    exact List.perm_append_singleton _ _
  have hne : ∀ x ∈ B, x.near ≠ (newBd f back far now s).near := fun x hx he => by
    have hnd := hpa.nd
    rw [List.map_map, List.map_cons, List.nodup_cons] at hnd
    refine hnd.1 (List.mem_map.2 ⟨x, hx, ?_⟩)
    dsimp only [Function.comp, Bd.pt]
    rw [he]
  have hfl : ∀ x ∈ B, x.flow ≠ f := findF_none hn
  refine ⟨⟨Inv0.perm (B := newBd f back far now s :: B) ⟨?_, ?_, ?_, hpa, ?_⟩ (insB_perm _ _).symm, insB_sorted _ h.sorted hne⟩, ?_⟩
  · rw [List.map_cons, List.nodup_cons]
    refine ⟨fun hm => ?_, h.nears⟩
    obtain ⟨x, hx, he⟩ := List.mem_map.1 hm
    exact hne x hx he
  · rw [List.map_cons, List.nodup_cons]
    refine ⟨fun hm => ?_, h.flows⟩
    obtain ⟨x, hx, he⟩ := List.mem_map.1 hm
    exact hfl x hx he
  · intro b hb
    rcases List.mem_cons.1 hb with rfl | hb
    · rw [hnear]; omega
    · exact h.low b hb
  · intro b hbm
    rcases List.mem_cons.1 hbm with rfl | hbm
    · exact ⟨hf, hb, hw, ht⟩
    · exact h.ok b hbm
  · cases hc : findN (s.takeN f.client) B with
    | none => rfl
    | some b =>
      obtain ⟨g1, g2⟩ := findN_some hc
      exact absurd g2 (hne b g1)
/-- Is a bind's time over? -/
def life (k : Int) : Int := if k = 6 then 100 else 30
def past (now : Int) (b : Bd) : Bool := !decide (now - b.last < life b.flow.kind)
def outB (now : Int) (B : List Bd) : List Bd := B.filter (past now)
def restB (now : Int) (B : List Bd) : List Bd := B.filter fun b => !past now b
/-- Ports given back. -/
def PS.backs (s : PS) (B : List Bd) : PS := { s with tk := fun i => s.tk i && !(B.any fun b => (b.near - 1024).toNat == i) }
theorem PS.backs_nil (s : PS) : s.backs [] = s := by
  unfold PS.backs
  cases s
  simp
theorem PS.backs_add (s : PS) (B : List Bd) (b : Bd) (h : (s.backs B).has b.near = true) : (s.backs B).back b.near = s.backs (B ++ [b]) := by
  unfold PS.back
  rw [if_pos h]
  unfold PS.set PS.backs
  congr 1
  funext i
  unfold Pl.upd
  rw [List.any_append]
  by_cases hi : i = (b.near - 1024).toNat
  · subst hi; simp
  · have : ((b.near - 1024).toNat == i) = false := by simp; omega
    simp [hi, this]
theorem PS.backs_perm (s : PS) {B C : List Bd} (p : B.Perm C) : s.backs B = s.backs C := by
  unfold PS.backs
  congr 1
  funext i
  rw [p.any_eq]
/-- One bind goes. -/
theorem Inv0.drop {s : PS} {l m : List Bd} {b : Bd} (h : Inv0 s (l ++ b :: m)) : Inv0 (s.back b.near) (l ++ m) := by
  have hb : b ∈ l ++ b :: m := by simp
  obtain ⟨i, hi, _⟩ := h.near hb
  have hs : (l ++ m).Sublist (l ++ b :: m) := (List.sublist_cons_self b m).append_left l
  have hp : b.pt.1 = i := by unfold Bd.pt; dsimp only; omega
  have hpa := h.pa
  rw [List.map_append, List.map_cons] at hpa
  have h1 := hpa.back.1
  rw [hp, ← hi] at h1
  refine ⟨h.nears.sublist (hs.map _), h.flows.sublist (hs.map _), fun x hx => h.low x (hs.subset hx), ?_, fun x hx => h.ok x (hs.subset hx)⟩
  rw [List.map_append]
  exact h1
/-- Two lists of binds by their ports that have the same. -/
theorem sorted_eq : ∀ {B C : List Bd}, B.Perm C → B.Pairwise (fun a b => a.near < b.near) → C.Pairwise (fun a b => a.near < b.near) → B = C
  | [], C, p, _, _ => (List.nil_perm.1 p).symm
  | b :: B, [], p, _, _ => absurd p.length_eq (by simp)
  | b :: B, c :: C, p, h, k => by
    rw [List.pairwise_cons] at h k
    have e : b = c := by
      rcases List.mem_cons.1 (p.mem_iff.1 (List.mem_cons_self (a := b) (l := B))) with e | hb
      · exact e
      · rcases List.mem_cons.1 (p.mem_iff.2 (List.mem_cons_self (a := c) (l := C))) with e | hc
        · exact e.symm
        · have h1 := h.1 c hc
          have h2 := k.1 b hb
          omega
    subst e
    rw [sorted_eq (List.perm_cons b |>.1 p) h.2 k.2]
end Go.Proofs.YtbjogkpepfgegaaGreatDoor
namespace Go.Proofs.YtbjogkpepfgegaaGreatDoor
open Go.RowKit
/-- Is a flow's stream to get a head? -/
def gHead (c : Cfg) (f : Flow) : Bool := c.inj && (sixEq f.dst c.vip && decide (f.kind = 6))
/-- Where a flow leads: to nobody (4), or there. -/
def gWhQ (c : Cfg) (f : Flow) : Int := if sixEq f.dst c.vip = true then (if f.door = c.door then 0 else 4) else if Pl.outErr f.dst c.len = 0 then (if Pl.inVal f.dst c.pre c.len = true then 0 else 4) else 4
/-- Whom a flow is led to: fault, address and door. -/
def gToQ (c : Cfg) (bs : List Pl.Back) (f : Flow) : Int := if sixEq f.dst c.vip = true then (if (Pl.best (Pl.worth c.seed f) bs).isSome = true then 0 else 4) else 0
def gToA (c : Cfg) (bs : List Pl.Back) (f : Flow) : Int := if sixEq f.dst c.vip = true then ((Pl.best (Pl.worth c.seed f) bs).getD Pl.back0).addr else Pl.outVal f.dst c.len
def gToD (c : Cfg) (bs : List Pl.Back) (f : Flow) : Int := if sixEq f.dst c.vip = true then ((Pl.best (Pl.worth c.seed f) bs).getD Pl.back0).door else f.door
/-- What comes of asking for a bind. -/
structure GB where
  q : Int
  b : Bd
  s : PS
  B : List Bd
/-- Does a segment begin? -/
def gSyn (kind flags : Int) : Bool := !decide (kind = 6) || (decide (flags / 2 % 2 = 1) && decide (flags / 16 % 2 = 0))
def gMade (f : Flow) (A D now : Int) (s : PS) (B : List Bd) : GB :=
  if bMakeQ f A D now s B = 0 then ⟨0, newBd f A D now s, s.take f.client, insB (newBd f A D now s) B⟩ else ⟨bMakeQ f A D now s B, zeroBd, s, B⟩
def gNew (c : Cfg) (bs : List Pl.Back) (s : PS) (B : List Bd) (now : Int) (f : Flow) (flags : Int) : GB :=
  if gSyn f.kind flags = true then (if gToQ c bs f = 0 then gMade f (gToA c bs f) (gToD c bs f) now s B else ⟨gToQ c bs f, zeroBd, s, B⟩) else ⟨9, zeroBd, s, B⟩
def gUse (b : Bd) (s : PS) (B : List Bd) (now : Int) : GB := ⟨bUseQ b.near now B, b, s, if bUseQ b.near now B = 0 then useB b.near now B else B⟩
def gBind (c : Cfg) (bs : List Pl.Back) (s : PS) (B : List Bd) (now : Int) (f : Flow) (flags : Int) : GB :=
  match findF f B with
  | some b => gUse b s B now
  | none => gNew c bs s B now f flags
/-- What comes of a packet. -/
structure GR where
  q : Int
  out : List Int
  s : PS
  B : List Bd
def Sg.ports (g : Sg) (a b : Int) : Sg := ⟨g.kind, a, b, g.seq, g.ack, g.flags, g.win⟩
def segFlow (p : P6) (g : Sg) : Flow := ⟨g.kind, p.src, g.frm, p.dst, g.to⟩
/-- A segment's packet as bytes. -/
def sent6 (s : Sg) (src dst : Six) (hop : Int) (D : List Int) : List Int := Pl.enc6 ⟨src, dst, hop, s.kind⟩ (body6 s src dst D)
def sent4 (s : Sg) (src dst : Int) (ttl : Int) (D : List Int) : List Int := Pl.enc4 src dst ttl s.kind 0 (body4 s src dst D)
def g6out (c : Cfg) (p : P6) (g : Sg) (D : List Int) (r : GB) : GR :=
  if r.q = 0 then ⟨0, sent4 (g.ports r.b.near r.b.far) c.near r.b.back (p.hop - 1) D, r.s, r.B⟩ else ⟨r.q, [], r.s, r.B⟩
def g6seg (c : Cfg) (bs : List Pl.Back) (s : PS) (B : List Bd) (now : Int) (p : P6) (g : Sg) (D : List Int) : GR :=
  if p.hop < 2 then ⟨7, [], s, B⟩ else
  if gWhQ c (segFlow p g) = 0 then g6out c p g D (gBind c bs s B now (segFlow p g) g.flags) else ⟨4, [], s, B⟩
def g6over (xs : List Int) : Int := val6 (Pl.dec6 xs).src (Pl.dec6 xs).dst (Pl.dec6 xs).kind (xs.drop 40).length
def g6q (xs : List Int) : Int := Pl.opQ (Pl.dec6 xs).kind (xs.drop 40) (g6over xs)
def g6sg (xs : List Int) : Sg := Pl.decSeg (Pl.dec6 xs).kind (xs.drop 40)
def g6D (xs : List Int) : List Int := (xs.drop 40).drop (Pl.segSize (Pl.dec6 xs).kind)
/-- Are bytes of a packet's form? -/
def is6B (xs : List Int) : Bool := decide ((40 ≤ xs.length ∧ xs.length ≤ 360) ∧ xs.getD 0 0 = 96 ∧ (xs.getD 1 0 = 0 ∧ xs.getD 2 0 = 0 ∧ xs.getD 3 0 = 0) ∧ xs.getD 4 0 * 256 + xs.getD 5 0 = xs.length - 40)
theorem is6B_iff {xs : List Int} : is6B xs = true ↔ Pl.Is6 xs := by
  unfold is6B Pl.Is6
  simp only [decide_eq_true_eq]
/-- What comes of bytes. -/
def g6 (c : Cfg) (bs : List Pl.Back) (s : PS) (B : List Bd) (now : Int) (xs : List Int) : GR :=
  if is6B xs = true then (if g6q xs = 0 then g6seg c bs s B now (Pl.dec6 xs) (g6sg xs) (g6D xs) else ⟨g6q xs, [], s, B⟩) else ⟨5, [], s, B⟩
/-- What comes of a server's packet. -/
def g4use (x : Bd) (ttl : Int) (g : Sg) (D : List Int) (s : PS) (B : List Bd) (now : Int) : GR :=
  if bUseQ x.near now B = 0 then ⟨0, sent6 (g.ports x.flow.door x.flow.port) x.flow.dst x.flow.client (ttl - 1) D, s, useB x.near now B⟩ else ⟨bUseQ x.near now B, [], s, B⟩
def g4to (c : Cfg) (src dst : Int) (x : Bd) (ttl : Int) (g : Sg) (D : List Int) (s : PS) (B : List Bd) (now : Int) : GR :=
  if dst = c.near ∧ src = x.back ∧ g.frm = x.far then g4use x ttl g D s B now else ⟨4, [], s, B⟩
def g4seg (c : Cfg) (s : PS) (B : List Bd) (now : Int) (src dst ttl : Int) (g : Sg) (D : List Int) : GR :=
  if ttl < 2 then ⟨7, [], s, B⟩ else
  match bNear g.kind g.to B with
  | some x => g4to c src dst x ttl g D s B now
  | none => ⟨4, [], s, B⟩
def g4 (c : Cfg) (s : PS) (B : List Bd) (now : Int) (src dst ttl k : Int) (b : List Int) : GR :=
  if Pl.opQ k b (val4 src dst k b.length) = 0 then g4seg c s B now src dst ttl (Pl.decSeg k b) (b.drop (Pl.segSize k)) else ⟨Pl.opQ k b (val4 src dst k b.length), [], s, B⟩
end Go.Proofs.YtbjogkpepfgegaaGreatDoor
namespace Go.Proofs.YtbjogkpepfgegaaGreatDoor
open Go.RowKit
set_option maxRecDepth 100000 in
set_option maxHeartbeats 1000000 in
theorem bnewT (n : Nat) (w : World) (h0 : 1 ≤ n) (h1 : n ≤ 16) :
    Calls Tryz.prog 20 #[.int .i64 (n : Int)] w fun e w' => ∃ G : TG, e = .returned (.tuple #[.pointer (some ⟨G.gT, 0, none⟩), .nilIface]) ∧ TB w' G (PS.zero n) [] ∧ Ext w w' ∧ ∀ g ∈ G.all, w.heap.size ≤ g := by
  have hmm := @run_makeMap Tryz.prog
  go_enter Tryz.func20, Tryz.ntmps20
  go_wp2_with fail
  refine (new_ok n w h0 h1).mono ?_
  rintro e W1 ⟨gP, gB, rfl, P1, E1, hgP, hgB⟩
  have hz1 := E1.size
  go_wp2_with fail
  go_returns
  have E2 := ((E1.alloc (.map #[] 0)).alloc (.map #[] 0)).alloc (.cells #[.pointer (some ⟨gP, 0, none⟩), .map (some W1.heap.size), .map (some (W1.heap.size + 1))] 117)
  have hP := P1.ptr.lt
  have hB := P1.row.lt
  have hne := P1.ne
  refine ⟨⟨W1.heap.size + 1 + 1, gP, gB, W1.heap.size, W1.heap.size + 1⟩, rfl, ⟨⟨[], 0, 0, ⟨?_, ((P1.alloc _).alloc _).alloc _, ⟨?_, fun _ h => (by cases h)⟩, ⟨?_, fun _ h => (by cases h)⟩, ?_⟩, List.Perm.refl _, List.nodup_nil⟩, Inv.zero n⟩, E2, ?_⟩
  · exact Blk.at _ _ _ (by simp)
  · show (((W1.alloc (.map #[] 0)).alloc (.map #[] 0)).alloc _).heap[W1.heap.size]? = _
    rw [heap_alloc_old _ _ (by simp; omega), heap_alloc_old _ _ (by simp)]
    exact heap_alloc_new _ _
  · show (((W1.alloc (.map #[] 0)).alloc (.map #[] 0)).alloc _).heap[W1.heap.size + 1]? = _
    rw [heap_alloc_old _ _ (by simp)]
    have := heap_alloc_new (W1.alloc (.map #[] 0)) (.map #[] 0)
    simpa using this
  · simp; omega
  · intro g hg
    simp [TG.all] at hg
    omega
end Go.Proofs.YtbjogkpepfgegaaGreatDoor
namespace Go.Proofs.YtbjogkpepfgegaaGreatDoor
open Go.RowKit
/-- What a config that may be says. -/
structure CfgOk (c : Cfg) (bs : List Pl.Back) : Prop where
  vip : okS c.vip = true
  door : 0 ≤ c.door ∧ c.door ≤ 65535
  pfx : Pl.pfxErr c.pre c.len = 0
  near : 0 ≤ c.near ∧ c.near < 4294967296
  seed : 0 ≤ c.seed ∧ c.seed < 2147483648
  blocks : 1 ≤ c.blocks ∧ c.blocks ≤ 16
  bks : Pl.OkBacks bs
  out : Pl.inB c.vip c.pre c.len.toNat = false
theorem CfgOk.of {c : Cfg} {bs : List Pl.Back} {i q : Int} (hp : Pl.PF bs i q) (he : c.err q = 0) : CfgOk c bs := by
  unfold Cfg.err at he
  split at he
  case isFalse => cases he
  rename_i h1
  split at he
  case isFalse => cases he
  rename_i h2
  split at he
  case isFalse h => exact absurd he h
  rename_i h3
  split at he
  case isFalse => cases he
  rename_i h4
  split at he
  case isFalse h => exact absurd he h
  rename_i h5
  split at he
  case isTrue => cases he
  rename_i h6
  obtain ⟨n1, n2, n3, n4, n5⟩ := Cfg.numB_yes h4
  subst h5
  exact ⟨h1, w16_iff.1 h2, h3, by unfold w32 at n1; simp at n1; omega, ⟨n2, n3⟩, ⟨n4, n5⟩, hp.ok rfl, by simpa using h6⟩
/-- Where a gate lies. -/
structure GG where
  g : Nat
  T : TG
  gS : Nat
  bv : Value
def GG.all (G : GG) : List Nat := G.g :: G.gS :: G.T.all
def GG.cells (G : GG) (c : Cfg) (now : Int) : Array Value := #[.int .i64 c.vip.x0, .int .i64 c.vip.x1, .int .i64 c.vip.x2, .int .i64 c.vip.x3, .int .i64 c.vip.x4, .int .i64 c.vip.x5, .int .i64 c.vip.x6, .int .i64 c.vip.x7, .int .i64 c.door, .int .i64 c.pre.x0, .int .i64 c.pre.x1, .int .i64 c.pre.x2, .int .i64 c.pre.x3, .int .i64 c.pre.x4, .int .i64 c.pre.x5, .int .i64 c.pre.x6, .int .i64 c.pre.x7, .int .i64 c.len, .int .i64 c.near, .int .i64 c.seed, .int .i64 c.blocks, .bool c.inj, G.bv, .pointer (some ⟨G.T.gT, 0, none⟩), .map (some G.gS), .int .i64 now]
structure GW (w : World) (G : GG) (c : Cfg) (bs : List Pl.Back) (s : PS) (B : List Bd) (now : Int) : Prop where
  blk : Blk w G.g 71 (G.cells c now)
  tab : TB w G.T s B
  str : ∃ k, w.heap[G.gS]? = some (.map #[] k)
  bks : OwnB w 0 G.bv bs
  apart : G.all.Nodup
  bk : ∀ k, G.bv.ownBlock = some k → k ∉ G.all
section
variable {w w' : World} {G : GG} {c : Cfg} {bs : List Pl.Back} {s s' : PS} {B B' : List Bd} {now : Int}
theorem OwnB.kp {S : List Nat} {C : Nat} {v : Value} (h : OwnB w C v bs) (k : Kp S w w') (hS : ∀ k, v.ownBlock = some k → k ∉ S) : OwnB w' C v bs := by
  have hC := h.lt
  refine ⟨h.1, ?_⟩
  rcases h.2 with hn | ⟨g, cap, cur, rfl, hg, hh, rest⟩
  · exact .inl hn
  · exact .inr ⟨g, cap, cur, rfl, hg, by rw [k.block g (hC g rfl).2 (hS g rfl)]; exact hh, rest⟩
theorem Kp.cell (w : World) (g i : Nat) (v : Value) : Kp [g] w (w.setCell ⟨g, i, none⟩ v) := ⟨rfl, rfl, rfl, by simp, fun j _ hn => Below.heap_setCell w ⟨g, i, none⟩ v j (by simpa using hn)⟩
theorem GW.lt (h : GW w G c bs s B now) : ∀ g ∈ G.all, g < w.heap.size := by
  intro g hg
  simp only [GG.all, List.mem_cons] at hg
  rcases hg with rfl | rfl | hg
  · exact h.blk.lt
  · obtain ⟨k, hk⟩ := h.str
    exact (Array.getElem?_eq_some_iff.1 hk).1
  · exact h.tab.lt g hg
theorem GW.kp {S : List Nat} (h : GW w G c bs s B now) (k : Kp S w w') (hS : ∀ g ∈ G.all, g ∉ S) (hB : ∀ k, G.bv.ownBlock = some k → k ∉ S) : GW w' G c bs s B now := by
  obtain ⟨m, hm⟩ := h.str
  exact ⟨h.blk.kp k (hS _ (by simp [GG.all])), h.tab.kp k (fun g hg => hS g (by simp [GG.all, hg])), ⟨m, (k.block _ (Array.getElem?_eq_some_iff.1 hm).1 (hS _ (by simp [GG.all]))).trans hm⟩, h.bks.kp k hB, h.apart, h.bk⟩
theorem GW.ext (h : GW w G c bs s B now) (k : Ext w w') : GW w' G c bs s B now := h.kp (k.kp []) (fun _ _ hm => by cases hm) (fun _ _ hm => by cases hm)
theorem TG.mut_all (T : TG) : ∀ g ∈ T.mut, g ∈ T.all := by
  intro g hg
  simp [TG.mut, TG.all] at hg ⊢
  rcases hg with rfl | rfl | rfl <;> simp
/-- The table has turned. -/
theorem GW.turn (h : GW w G c bs s B now) (k : Kp G.T.mut w w') (t : TB w' G.T s' B') : GW w' G c bs s' B' now := by
  have ha := h.apart
  simp only [GG.all, List.nodup_cons] at ha
  have hg : G.g ∉ G.T.mut := fun hm => ha.1 (by simp [TG.mut_all _ _ hm])
  have hs : G.gS ∉ G.T.mut := fun hm => ha.2.1 (TG.mut_all _ _ hm)
  obtain ⟨m, hm⟩ := h.str
  exact ⟨h.blk.kp k hg, t, ⟨m, (k.block _ (Array.getElem?_eq_some_iff.1 hm).1 hs).trans hm⟩, h.bks.kp k (fun j hj hm => h.bk j hj (by simp [GG.all, TG.mut_all _ _ hm])), h.apart, h.bk⟩
theorem Kp.alloc {S : List Nat} {a b : World} (h : Kp S a b) (o : Obj) : Kp S a (b.alloc o) := h.andExt ((Ext.refl b).alloc o)
theorem Kp.one (w : World) (k : Nat) (cs : Array Value) : Kp [k] w (w.setRow k cs) := ⟨rfl, rfl, rfl, by simp, fun i _ hn => setRow_other w k i cs (by simpa using hn)⟩
/-- A block that came later is written. -/
theorem GW.rowN {w0 : World} {s0 : PS} {B0 : List Bd} {n0 : Int} {k : Nat} (h : GW w G c bs s B now) (h0 : GW w0 G c bs s0 B0 n0) (hk : w0.heap.size ≤ k) (cs : Array Value) : GW (w.setRow k cs) G c bs s B now :=
  h.kp (Kp.one w k cs) (fun g hg hm => by
    have := h0.lt g hg
    simp at hm
    omega) (fun j hj hm => by
    have := (h0.bks.lt j hj).2
    simp at hm
    omega)
theorem Tryz.sizeGate : (Tryz.prog.info? 71).map (·.size) = some 26 := by kernel_rfl
end
set_option maxRecDepth 100000 in
set_option maxHeartbeats 2000000 in
theorem gnewW (c : Cfg) (a : Option Addr) (n m : Nat) (bs : List Pl.Back) (i q : Int) (w : World) (hb : Backs w a n bs) (hnm : n ≤ m) (hp : Pl.PF bs i q) (he : c.err q = 0) :
    Calls Tryz.prog 6 #[c.v (.slice a n m)] w fun e w' => ∃ G : GG, e = .returned (.tuple #[.pointer (some ⟨G.g, 0, none⟩), .nilIface]) ∧ GW w' G c bs (PS.zero c.blocks.toNat) [] 0 ∧ Ext w w' ∧ (∀ g ∈ G.all, w.heap.size ≤ g) ∧ ∀ k, G.bv.ownBlock = some k → w.heap.size ≤ k := by
  have KC := Blk.new w 26 (c.cells (.slice a n m))
  have E0 := (Ext.refl w).alloc (.cells (c.cells (.slice a n m)) 26)
  have HB := Lib.hid hb
  have HP := Lib.hid hp
  have HE := Lib.hid he
  have hok := CfgOk.of hp he
  have hn8 : n ≤ 8 := by
    have := hok.bks.1
    rw [hb.1] at this
    exact this
  obtain ⟨hb1, hb2⟩ := hok.blocks
  clear hb hp he hok
  have ld := KC.cfg
  have hmm := @run_makeMap Tryz.prog
  go_enter Tryz.func6, Tryz.ntmps6
  go_wp2_with ((apply load_by rfl _ _ rfl _ rfl); (focus (with_reducible assumption)))
  refine (gcheck_any c a n m bs i q _ (HB.out.ext E0) hnm HP.out).mono ?_
  rintro e W1 ⟨rfl, q1⟩
  have E1 := E0.trans q1
  have K1 := KC.ext q1
  rw [HE.out, erv_zero]
  have HBN : Calls Tryz.prog 20 #[.int .i64 c.blocks] W1 fun e w' => ∃ T : TG, e = .returned (.tuple #[.pointer (some ⟨T.gT, 0, none⟩), .nilIface]) ∧ TB w' T (PS.zero c.blocks.toNat) [] ∧ Ext W1 w' ∧ ∀ g ∈ T.all, W1.heap.size ≤ g := by
    have := bnewT c.blocks.toNat W1 (by omega) (by omega)
    rwa [Int.toNat_of_nonneg (by omega)] at this
  have c20 := K1.cfgNums.2.2.2.2.1
  have HN := Lib.hid HBN
  clear ld KC E0 q1 HBN
  go_wp2_with fail
  refine HN.out.mono ?_
  rintro e W2 ⟨T, rfl, T2, q2, l2⟩
  have E2 := E1.trans q2
  have K2 := K1.ext q2
  have c22 := K2.cfgNums.2.2.2.2.2
  have hgc : w.heap.size < W1.heap.size := K1.lt
  have HL2 := Lib.hid l2
  have T2l := Lib.hid T2.lt
  clear c20 q2 l2
  go_wp2_with fail
  refine (bclone_any a n m bs W2 (HB.out.ext E2) hn8).mono ?_
  rintro e W3 ⟨v3, rfl, o3, q3⟩
  have E3 := E2.trans q3
  have K3 := K2.ext q3
  have T3 := T2.ext q3
  have f22 := K3.free 22
  have c22 := K3.cells 22
  have O3 := Lib.hid o3
  obtain ⟨a3, n3, m3, rfl, _, _⟩ := o3.read
  have K4 := K3.put 22 (.slice a3 n3 m3)
  have T4 : TB (W3.setCell ⟨w.heap.size, 22, none⟩ (.slice a3 n3 m3)) T (PS.zero c.blocks.toNat) [] := T3.kp (S := [w.heap.size]) (Kp.cell W3 w.heap.size 22 _) (fun g hg hm => by
    simp at hm
    have := HL2.out g hg
    omega)
  have E4 : Ext w (W3.setCell ⟨w.heap.size, 22, none⟩ (.slice a3 n3 m3)) := Ext.set E3 (p := ⟨w.heap.size, 22, none⟩) (Nat.le_refl _) _
  have q4 : Kp [w.heap.size] W3 (W3.setCell ⟨w.heap.size, 22, none⟩ (.slice a3 n3 m3)) := Kp.cell W3 w.heap.size 22 _
  have hsz := E2.size
  have hlt2 := K2.lt
  have o4 : OwnB (W3.setCell ⟨w.heap.size, 22, none⟩ (.slice a3 n3 m3)) W2.heap.size (.slice a3 n3 m3) bs := O3.out.kp q4 (fun k hk hm => by
    simp at hm
    have := (O3.out.lt k hk).1
    omega)
  clear E3 K3 T3 O3 K2 T2 E2 q3 q4
  go_upto_region 8 with (fail)
  refine at_worldE (fun W => Ext w W ∧ Blk W w.heap.size 26 (c.cells (.slice a3 n3 m3)) ∧ TB W T (PS.zero c.blocks.toNat) [] ∧ OwnB W W2.heap.size (.slice a3 n3 m3) bs) ⟨E4, K4, T4, o4⟩ ?_
  clear E4 K4 T4 o4 f22 c22
  rintro W4 ⟨E4, K4, T4, o4⟩
  have ld : (Instr.loadAt 26 (.pointer (some ⟨w.heap.size, 0, none⟩))).run Tryz.prog W4 = .ok (.agg #[.int .i64 c.vip.x0, .int .i64 c.vip.x1, .int .i64 c.vip.x2, .int .i64 c.vip.x3, .int .i64 c.vip.x4, .int .i64 c.vip.x5, .int .i64 c.vip.x6, .int .i64 c.vip.x7, .int .i64 c.door, .int .i64 c.pre.x0, .int .i64 c.pre.x1, .int .i64 c.pre.x2, .int .i64 c.pre.x3, .int .i64 c.pre.x4, .int .i64 c.pre.x5, .int .i64 c.pre.x6, .int .i64 c.pre.x7, .int .i64 c.len, .int .i64 c.near, .int .i64 c.seed, .int .i64 c.blocks, .bool c.inj, .slice a3 n3 m3]) W4 := K4.cfg
  have HE4 := Lib.hid E4
  have HT4 := Lib.hid T4
  have HO4 := Lib.hid o4
  have hs4 := E4.size
  clear E4 K4 T4 o4
  go_wp2_with ((apply load_by rfl _ _ rfl _ rfl); (focus (with_reducible assumption)))
  go_returns
  have KG := Blk.at (n := W4.heap.size + 1) (W4.alloc (.map #[] 0)) 71 ((⟨W4.heap.size + 1, T, W4.heap.size, .slice a3 n3 m3⟩ : GG).cells c 0) (by simp)
  have EX := ((Ext.refl W4).alloc (.map #[] 0)).alloc (.cells ((⟨W4.heap.size + 1, T, W4.heap.size, .slice a3 n3 m3⟩ : GG).cells c 0) 71)
  have hlt := HT4.out.lt
  have hnd : T.all.Nodup := by
    obtain ⟨_, _, _, ht, _⟩ := HT4.out.ex
    exact ht.apart
  have ho := HO4.out.lt
  refine ⟨⟨W4.heap.size + 1, T, W4.heap.size, .slice a3 n3 m3⟩, rfl, ⟨KG, HT4.out.ext EX, ⟨0, ?_⟩, ?_, ?_, ?_⟩, (HE4.out.alloc _).alloc _, ?_, ?_⟩
  · rw [heap_alloc_old _ _ (by simp)]
    exact heap_alloc_new _ _
  · have h0 := HO4.out.ext EX
    refine ⟨h0.1, ?_⟩
    rcases h0.2 with hn | ⟨g, cap, cur, hv, hg, rest⟩
    · exact .inl hn
    · exact .inr ⟨g, cap, cur, hv, Nat.zero_le _, rest⟩
  · simp only [GG.all, List.nodup_cons]
    refine ⟨fun hm => ?_, fun hm => ?_, hnd⟩
    · simp only [List.mem_cons] at hm
      rcases hm with hm | hm
      · omega
      · have := hlt _ hm; omega
    · have := hlt _ hm; omega
  · intro k hk hm
    have hk1 := ho k hk
    simp only [GG.all, List.mem_cons] at hm
    rcases hm with rfl | rfl | hm
    · omega
    · omega
    · have := T2l.out k hm
      omega
  · intro g hg
    simp only [GG.all, List.mem_cons] at hg
    rcases hg with rfl | rfl | hg
    · show _ ≤ W4.heap.size + 1; omega
    · exact hs4
    · have := HL2.out g hg; omega
  · intro k hk
    have := (ho k hk).1
    omega
end Go.Proofs.YtbjogkpepfgegaaGreatDoor
namespace Go.Proofs.YtbjogkpepfgegaaGreatDoor
open Go.RowKit
/-- A segment's packet that may be. -/
structure SentOk (s : Sg) (src dst : Six) (hop : Int) (n : Nat) : Prop where
  seg : Pl.SegOk s n
  src : okS src = true
  dst : okS dst = true
  hop : 0 ≤ hop ∧ hop ≤ 255
section
variable {s : Sg} {src dst : Six} {hop : Int} {D : List Int}
theorem SentOk.len (h : SentOk s src dst hop D.length) : (body6 s src dst D).length = Pl.segSize s.kind + D.length := Pl.segBytes_length h.seg.1
theorem SegOk.data {n : Nat} (h : Pl.SegOk s n) : n ≤ 300 := h.2.2.2.2.2.2.2.2
theorem SentOk.small (h : SentOk s src dst hop D.length) : (body6 s src dst D).length ≤ 320 := by
  rw [h.len]
  have := Pl.segSize_le s.kind
  have := SegOk.data h.seg
  omega
theorem SentOk.good (h : SentOk s src dst hop D.length) : (⟨src, dst, hop, s.kind⟩ : P6).good = true := by
  have hk : 0 ≤ s.kind ∧ s.kind ≤ 255 := by rcases h.seg.1 with hk | hk <;> omega
  unfold P6.good b8
  rw [h.src, h.dst]
  simp [h.hop, hk]
theorem SentOk.body_isB (h : SentOk s src dst hop D.length) (hD : Pl.IsB D) : Pl.IsB (body6 s src dst D) := Pl.segBytes_isB h.seg (Pl.segCheck_bd _ _ _) hD
theorem SentOk.isB (h : SentOk s src dst hop D.length) (hD : Pl.IsB D) : Pl.IsB (sent6 s src dst hop D) := Pl.enc6_isB h.good h.small (h.body_isB hD)
theorem SentOk.is6 (h : SentOk s src dst hop D.length) : Pl.Is6 (sent6 s src dst hop D) := Pl.enc6_is h.small
theorem sent6_dec : Pl.dec6 (sent6 s src dst hop D) = ⟨src, dst, hop, s.kind⟩ := Pl.enc6_dec _ _
theorem sent6_drop : (sent6 s src dst hop D).drop 40 = body6 s src dst D := Pl.enc6_drop _ _
theorem op6_body (h : Pl.SegOk s D.length) (v : Int) (hv : Pl.Word v) : Pl.opQ s.kind (Pl.segBytes s (Pl.segCheck s v D) D) v = 0 := by
  rw [(Pl.op_known h.1).1]
  exact Pl.segQ_enc h hv
theorem SentOk.q (h : SentOk s src dst hop D.length) : g6q (sent6 s src dst hop D) = 0 := by
  unfold g6q g6over
  rw [sent6_dec, sent6_drop, h.len]
  exact op6_body h.seg _ val6_word
theorem SentOk.sg (h : SentOk s src dst hop D.length) : g6sg (sent6 s src dst hop D) = s := by
  unfold g6sg
  rw [sent6_dec, sent6_drop]
  exact Pl.segBytes_dec h.seg
theorem SentOk.data (h : SentOk s src dst hop D.length) : g6D (sent6 s src dst hop D) = D := by
  unfold g6D
  rw [sent6_dec, sent6_drop]
  exact Pl.segBytes_drop h.seg.1
/-- A segment's packet comes to what its segment comes to. -/
theorem g6_sent (h : SentOk s src dst hop D.length) (c : Cfg) (bs : List Pl.Back) (p : PS) (B : List Bd) (now : Int) :
    g6 c bs p B now (sent6 s src dst hop D) = g6seg c bs p B now ⟨src, dst, hop, s.kind⟩ s D := by
  unfold g6
  rw [if_pos (is6B_iff.2 h.is6), if_pos h.q, sent6_dec, h.sg, h.data]
theorem SentOk.len4 {a b : Int} (h : Pl.SegOk s D.length) : (body4 s a b D).length = Pl.segSize s.kind + D.length := Pl.segBytes_length h.1
/-- A server's segment's packet comes to what its segment comes to. -/
theorem g4_sent {a b : Int} (h : Pl.SegOk s D.length) (c : Cfg) (p : PS) (B : List Bd) (now ttl : Int) :
    g4 c p B now a b ttl s.kind (body4 s a b D) = g4seg c p B now a b ttl s D := by
  have hq : Pl.opQ s.kind (body4 s a b D) (val4 a b s.kind ((body4 s a b D).length : Nat)) = 0 := by
    rw [SentOk.len4 h]
    exact op6_body h _ val4_word
  unfold g4
  rw [if_pos hq]
  have e1 : Pl.decSeg s.kind (body4 s a b D) = s := Pl.segBytes_dec h
  have e2 : (body4 s a b D).drop (Pl.segSize s.kind) = D := Pl.segBytes_drop h.1
  rw [e1, e2]
theorem g6_nil (c : Cfg) (bs : List Pl.Back) (p : PS) (B : List Bd) (now : Int) : g6 c bs p B now [] = ⟨5, [], p, B⟩ := by
  unfold g6
  rw [if_neg]
  intro h
  have := (is6B_iff.1 h).1.1
  simp at this
end
end Go.Proofs.YtbjogkpepfgegaaGreatDoor
namespace Go.Proofs.YtbjogkpepfgegaaGreatDoor
open Go.RowKit
/-- Binds in cells. -/
def KB : Kin Bd := ⟨fun b => b.cells.toList, 23, by decide, fun _ => rfl, fun b u hu => (Array.all_eq_true_iff_forall_mem.1 b.one) u (by simpa using hu)⟩
theorem Tryz.infoBind : (Tryz.prog.info? 52).map (fun i => (i.zero, i.size, i.bytes)) = some (some (.agg #[.int .i64 0, .int .i64 0, .int .i64 0, .int .i64 0, .int .i64 0, .int .i64 0, .int .i64 0, .int .i64 0, .int .i64 0, .int .i64 0, .int .i64 0, .int .i64 0, .int .i64 0, .int .i64 0, .int .i64 0, .int .i64 0, .int .i64 0, .int .i64 0, .int .i64 0, .int .i64 0, .int .i64 0, .int .i64 0, .int .i64 0]), 23, 184) := by kernel_rfl
theorem Tryz.elemBinds : Tryz.prog.elem 47 = 52 := by kernel_rfl
theorem appBL {w : World} {ops : Array Oper} {rest : List Oper} {o : Oper} {a : Act} {Q : Exit → Act → World → Prop} (hgd : o.guard = none) (s x : Operand)
    (ho : o.op = .call { callee := .builtin .append, args := #[s, x], argTypes := #[47, 47] })
    (B : Nat) (v : Value) (ys : List Bd) (hs : a.eval s = v) (hown : KB.Own 52 w B v ys) (ao : Option Addr) (m c : Nat) (xs : List Bd) (hx : a.eval x = .slice ao m c) (hr : KB.See w ao m xs)
    (hmax : ys.length + m ≤ 1073741824) (hbase : B ≤ w.heap.size)
    (h : ∀ v' w', KB.Own 52 w' B v' (ys ++ xs) → w.grownBy w' v.ownBlock → Below B w w' → (v'.ownBlock = v.ownBlock ∨ v'.ownBlock = some w.heap.size) → wpList Tryz.prog ops Q rest (a.put o.dst v') w') : wpList Tryz.prog ops Q (o :: rest) a w :=
  appKL KB 47 52 _ 184 Tryz.underlying47 Tryz.infoBind rfl (by decide) hgd s x ho B v ys hs hown ao m c xs hx hr hmax hbase h
theorem Blk.binds1 {w : World} {g : Nat} {t : TypeId} {b : Bd} (h : Blk w g t b.cells) : KB.See w (some ⟨g, 0, none⟩) 1 [b] := Kin.See.blk h (by simp [Kin.cells, KB])
/-- A bind of a row, read whole. -/
theorem Kin.See.bind {w : World} {b off n : Nat} {xs : List Bd} (h : KB.See w (some ⟨b, off, none⟩) n xs) {i : Nat} {x : Bd} (hi : xs[i]? = some x) :
    (Instr.loadAt 52 (.pointer (some ⟨b, off + i * 23, none⟩))).run Tryz.prog w = .ok (.agg x.cells) w := by
  have hn : 0 < n := by
    have := (List.getElem?_eq_some_iff.1 hi).1
    rw [h.1] at this
    omega
  rcases h.2 with h0 | ⟨b', off', hb, hc⟩
  · omega
  · cases hb
    have := run_loadAt_mid (P := Tryz.prog) w b (off + i * 23) 52 x.cells.toList _ (fun j v hv => hc i x hi j v hv) Tryz.underlying52 rfl Tryz.sizeBd
    rw [Array.toArray_toList] at this
    exact this
/-- Entries that have come, of all. -/
structure Vis (l d : List Te) : Prop where
  sub : ∀ x ∈ d, x ∈ l
  nd : (d.map Te.sN).Nodup
theorem nodup_of_map {α β : Type} {f : α → β} {l : List α} (h : (l.map f).Nodup) : l.Nodup := by
  unfold List.Nodup at *
  rw [List.pairwise_map] at h
  exact h.imp fun hne he => hne (by rw [he])
theorem stamp_inj {l : List Te} (h : (l.map Te.sN).Nodup) {x y : Te} (hx : x ∈ l) (hy : y ∈ l) (he : x.sN = y.sN) : x = y := by
  obtain ⟨i, hi⟩ := List.mem_iff_getElem?.1 hx
  obtain ⟨j, hj⟩ := List.mem_iff_getElem?.1 hy
  have hij := (List.getElem?_inj (i := i) (j := j) (by simp only [List.length_map]; exact (List.getElem?_eq_some_iff.1 hi).1) h).1 (by rw [List.getElem?_map, List.getElem?_map, hi, hj]; simp [he])
  rw [← hij, hi] at hj
  exact Option.some.inj hj
theorem Vis.all {l d : List Te} (h : Vis l d) (hl : (l.map Te.sN).Nodup) (ha : ∀ x ∈ l, x.sN ∈ d.map Te.sN) : d.Perm l := by
  rw [List.perm_ext_iff_of_nodup (nodup_of_map h.nd) (nodup_of_map hl)]
  intro x
  refine ⟨h.sub x, fun hx => ?_⟩
  obtain ⟨y, hy, he⟩ := List.mem_map.1 (ha x hx)
  rw [← stamp_inj hl (h.sub y hy) hx he]
  exact hy
theorem Vis.add {l d : List Te} (h : Vis l d) {x : Te} (hx : x ∈ l) (hn : x.sN ∉ d.map Te.sN) : Vis l (d ++ [x]) := by
  refine ⟨fun y hy => ?_, ?_⟩
  · rcases List.mem_append.1 hy with hy | hy
    · exact h.sub y hy
    · simp at hy; subst hy; exact hx
  · rw [List.map_append, List.nodup_append]
    refine ⟨h.nd, by simp, fun a ha b hb => ?_⟩
    simp at hb
    subst hb
    exact fun he => hn (he ▸ ha)
theorem Vis.len {l d : List Te} (h : Vis l d) : d.length ≤ l.length := List.Nodup.length_le_of_subset (nodup_of_map h.nd) fun x hx => h.sub x hx
end Go.Proofs.YtbjogkpepfgegaaGreatDoor
