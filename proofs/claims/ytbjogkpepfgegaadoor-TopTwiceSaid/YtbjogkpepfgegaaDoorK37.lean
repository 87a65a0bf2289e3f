/- A gate at which nothing has gone on: its first packet, and the answer. Conditions: as each lemma states them. -/
import Derived.Test.YtbjogkpepfgegaaDoorK36
namespace Go.Proofs.YtbjogkpepfgegaaDoor
open Go.RowKit
theorem zero_pick (n : Nat) (who : Six) (hn : 1 ≤ n) : (PS.zero n).pick who = 0 := by
  have h1 : ∀ k, (PS.zero n).mine who k = false := fun k => by unfold PS.mine; rw [PS.zero_many]; rfl
  have h2 : (PS.zero n).fresh 0 = true := by unfold PS.fresh; rw [PS.zero_many]; rfl
  unfold PS.pick
  have e : Pl.first ((PS.zero n).mine who) (PS.zero n).n = (PS.zero n).n := Pl.first_none fun j _ => h1 j
  rw [e, if_neg (by omega)]
  exact Pl.first_eq (show 0 < n by omega) h2 fun j hj => by omega
theorem zero_takeQ (n : Nat) (who : Six) (hn : 1 ≤ n) (ho : okS who = true) : (PS.zero n).takeQ who = 0 := by
  unfold PS.takeQ
  rw [if_pos ho, zero_pick n who hn]
  exact if_pos (show 0 < n by omega)
theorem zero_takeN (n : Nat) (who : Six) (hn : 1 ≤ n) (ho : okS who = true) : (PS.zero n).takeN who = 1024 := by
  unfold PS.takeN
  rw [if_pos (zero_takeQ n who hn ho), zero_pick n who hn]
  have : (PS.zero n).low 0 = 0 := by
    unfold PS.low
    exact Pl.first_eq (by omega) rfl fun j hj => by omega
  rw [this]
  rfl
section
variable {s : Sg} {src dst : Six} {hop : Int} {D : List Int} {c : Cfg} {bs : List Pl.Back}
theorem SentOk.okF (h : SentOk s src dst hop D.length) : okF (segFlow ⟨src, dst, hop, s.kind⟩ s) = true :=
  okF_iff.2 ⟨h.seg.1, h.src, h.dst, h.seg.2.1, h.seg.2.2.1⟩
/-- The first bind. -/
def oneBd (f : Flow) (A W : Int) : Bd := ⟨f, 1024, A, W, 0⟩
theorem first_bind {f : Flow} {flags : Int} (hf : okF f = true) (hn : 1 ≤ c.blocks) (hsyn : gSyn f.kind flags = true) (ht : gToQ c bs f = 0) (hA : 0 ≤ gToA c bs f ∧ gToA c bs f < 4294967296) (hD : 0 ≤ gToD c bs f ∧ gToD c bs f ≤ 65535) :
    gBind c bs (PS.zero c.blocks.toNat) [] 0 f flags = ⟨0, oneBd f (gToA c bs f) (gToD c bs f), (PS.zero c.blocks.toNat).take f.client, [oneBd f (gToA c bs f) (gToD c bs f)]⟩ := by
  have hcl : okS f.client = true := (okF_iff.1 hf).2.1
  have hb : 1 ≤ c.blocks.toNat := by omega
  have hq : bMakeQ f (gToA c bs f) (gToD c bs f) 0 (PS.zero c.blocks.toNat) [] = 0 := by
    unfold bMakeQ
    rw [if_pos hf, if_pos (by rw [okA_iff.2 hA, w16_iff.2 hD]; rfl), if_neg (by simp [findF])]
    exact zero_takeQ _ _ hb hcl
  have hnb : newBd f (gToA c bs f) (gToD c bs f) 0 (PS.zero c.blocks.toNat) = oneBd f (gToA c bs f) (gToD c bs f) := by
    unfold newBd oneBd
    rw [zero_takeN _ _ hb hcl]
  show gNew _ _ _ _ _ _ _ = _
  unfold gNew
  rw [if_pos hsyn, if_pos ht]
  unfold gMade
  rw [if_pos hq, hnb]
  rfl
theorem first_none_bind {f : Flow} {flags : Int} (h : gToQ c bs f ≠ 0) (hsyn : gSyn f.kind flags = true) : gBind c bs (PS.zero c.blocks.toNat) [] 0 f flags = ⟨gToQ c bs f, zeroBd, PS.zero c.blocks.toNat, []⟩ := by
  show gNew _ _ _ _ _ _ _ = _
  unfold gNew
  rw [if_pos hsyn, if_neg h]
theorem first_in6 (h : SentOk s src dst hop D.length) (hh : 2 ≤ hop) (hn : 1 ≤ c.blocks) (hw : gWhQ c (segFlow ⟨src, dst, hop, s.kind⟩ s) = 0) (hsyn : gSyn s.kind s.flags = true) (ht : gToQ c bs (segFlow ⟨src, dst, hop, s.kind⟩ s) = 0)
    {A W : Int} (eA : gToA c bs (segFlow ⟨src, dst, hop, s.kind⟩ s) = A) (eW : gToD c bs (segFlow ⟨src, dst, hop, s.kind⟩ s) = W) (hA : 0 ≤ A ∧ A < 4294967296) (hD : 0 ≤ W ∧ W ≤ 65535) :
    g6 c bs (PS.zero c.blocks.toNat) [] 0 (sent6 s src dst hop D) = ⟨0, sent4 (s.ports 1024 W) c.near A (hop - 1) D, (PS.zero c.blocks.toNat).take src, [oneBd (segFlow ⟨src, dst, hop, s.kind⟩ s) A W]⟩ := by
  subst eA
  subst eW
  rw [g6_sent h]
  unfold g6seg
  rw [if_neg (by show ¬ hop < 2; omega), if_pos hw, first_bind h.okF hn hsyn ht hA hD]
  rfl
/-- The answer to it. -/
theorem first_in4 {s : Sg} {D : List Int} (h : Pl.SegOk s D.length) {ttl A : Int} (hh : 2 ≤ ttl) {f : Flow} (hk : f.kind = s.kind) (hto : s.to = 1024) (p : PS) :
    g4 c p [oneBd f A s.frm] 0 A c.near ttl s.kind (body4 s A c.near D) = ⟨0, sent6 (s.ports f.door f.port) f.dst f.client (ttl - 1) D, p, [oneBd f A s.frm]⟩ := by
  rw [g4_sent h]
  unfold g4seg
  have hb : bNear s.kind s.to [oneBd f A s.frm] = some (oneBd f A s.frm) := by
    unfold bNear findN
    rw [hto]
    simp [oneBd, hk, Option.filter]
  have hq : bUseQ (oneBd f A s.frm).near 0 [oneBd f A s.frm] = 0 := by
    unfold bUseQ findN
    simp [oneBd, okT]
  rw [if_neg (by omega), hb]
  show g4to c A c.near (oneBd f A s.frm) ttl s D p _ 0 = _
  unfold g4to
  rw [if_pos ⟨rfl, rfl, rfl⟩]
  unfold g4use
  rw [if_pos hq]
  have hu : useB (oneBd f A s.frm).near 0 [oneBd f A s.frm] = [oneBd f A s.frm] := by simp [useB, Bd.at, oneBd]
  rw [hu]
  rfl
end
end Go.Proofs.YtbjogkpepfgegaaDoor
