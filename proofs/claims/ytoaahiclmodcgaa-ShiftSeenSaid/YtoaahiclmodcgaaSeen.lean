/- What the server sees of a segment that goes up, and what is told of one that goes down. Conditions: as each lemma states them. -/
import Derived.Test.YtoaahiclmodcgaaUpd
import Derived.Test.YtoaahiclmodcgaaSlice
namespace Go.Proofs.Ytoaahiclmodcgaa
open Go.RowKit

theorem shFault_tcp (q k f : Int) (n : Nat) (h0 : 0 ≤ q) (h1 : q < 4294967296) (k0 : 0 ≤ k) (k1 : k < 4294967296) (f0 : 0 ≤ f) (f1 : f ≤ 31) (hn : n ≤ 300) : Pl.shFault ⟨6, 0, 0, q, k, f, 0⟩ n = 0 := by
  have : Pl.segFault ⟨6, 0, 0, q, k, f, 0⟩ n = 0 := by unfold Pl.segFault Pl.Word; simp; omega
  unfold Pl.shFault
  rw [this]
  rfl

/-- What goes up lies in the head with the stream behind it, where its number says. -/
def SeenPost (w : World) (isn : Int) (hn nd : Nat) (hx dx : List Int) (e : Ending) (w' : World) : Prop :=
  ∃ (sq : Int) (at' L : Nat) (v : Value), e = .returned (.tuple #[.agg ((⟨6, 0, 0, sq, 0, 16, 0⟩ : Sg).cells v), .nilIface]) ∧ Own w' w.heap.size v (((hx ++ dx).drop at').take L) ∧ at' + L ≤ hn + nd ∧
    (sq - (ser (isn - hn) + 1) % 4294967296 + 4294967296) % 4294967296 = at' ∧ (0 ≤ sq ∧ sq < 4294967296) ∧ Ext w w'
theorem seen_of {w w' : World} {e : Ending} {isn : Int} {hn nd a len : Nat} {hx dx : List Int} {hd : Bool} (lh : hx.length = hn) (ld : dx.length = nd) (hh : hn ≤ 100) (hdn : nd ≤ 150) (ha : a + len ≤ nd)
    (h : UpPost w hn len ((isn + 1) % 4294967296) hd ⟨6, 0, 0, (isn + 1 + a) % 4294967296, 0, 16, 0⟩ hx ((dx.drop a).take len) e w') : SeenPost w isn hn nd hx dx e w' := by
  unfold UpPost at h
  dsimp only at h
  obtain ⟨hA, hB, -⟩ := h
  by_cases hs : (isn + 1 + a) % 4294967296 = (isn + 1) % 4294967296 ∧ hd = false
  · obtain ⟨hs1, hs2⟩ := hs
    obtain rfl : a = 0 := by omega
    obtain ⟨⟨v, he, ho⟩, q⟩ := hB hs1 hs2 (by omega)
    refine ⟨_, 0, hn + len, v, he, ?_, by omega, ?_, ?_, q⟩
    · rw [List.drop_zero, List.take_append, lh, List.take_of_length_le (by omega), Nat.add_sub_cancel_left]
      simpa using ho
    · unfold ser; omega
    · unfold ser; omega
  · have hs' : (isn + 1 + a) % 4294967296 ≠ (isn + 1) % 4294967296 ∨ hd = true := by
      by_cases h2 : hd = true
      · exact .inr h2
      · exact .inl fun h3 => hs ⟨h3, by simpa using h2⟩
    obtain ⟨⟨v, he, ho⟩, q⟩ := hA hs'
    refine ⟨_, hn + a, len, v, he, ?_, by omega, ?_, ?_, q⟩
    · have hda : (hx ++ dx).drop (hn + a) = dx.drop a := by subst lh; simp [List.drop_append]
      rw [hda]
      exact ho
    · unfold ser; omega
    · omega

/-- What is told below: how much of the stream the server has. -/
def DownPost (w : World) (g : Nat) (h : Value) (isn : Int) (hn : Nat) (k : Int) (e : Ending) (w' : World) : Prop :=
  ∃ (ak : Int) (v : Value) (hd : Bool), e = .returned (.tuple #[.agg ((⟨6, 0, 0, 0, ak, 16, 0⟩ : Sg).cells v), .nilIface]) ∧ Own w' w.heap.size v [] ∧ StB w' g h ((isn + 1) % 4294967296) true hd ∧ w.grownBy w' (some g) ∧
    (ak - isn - 1 + 8589934592) % 4294967296 = (if k - hn < 0 then 0 else k - hn) ∧ (0 ≤ ak ∧ ak < 4294967296)
theorem told_any (g : Nat) (h : Value) (isn : Int) (hn : Nat) (k : Int) (heard : Bool) (w : World) (hh : hn ≤ 100) (hk0 : 0 ≤ k) (hk1 : k ≤ 250) (K : StB w g h ((isn + 1) % 4294967296) true heard) :
    Calls Try.prog 14 #[.pointer (some ⟨g, 0, none⟩), Sg.v ⟨6, 0, 0, 0, ((ser (isn - hn) + 1) % 4294967296 + k) % 4294967296, 16, 0⟩ (.slice none 0 0)] w fun e w' => DownPost w g h isn hn k e w' := by
  generalize hq : ((ser (isn - hn) + 1) % 4294967296 + k) % 4294967296 = q
  have hq0 : 0 ≤ q ∧ q < 4294967296 := by omega
  have hq1 : q = (isn + 1 - hn + k) % 4294967296 := by unfold ser at hq; omega
  clear hq
  refine (down_ok g h ((isn + 1) % 4294967296) heard ⟨6, 0, 0, 0, q, 16, 0⟩ none 0 0 [] w (shFault_tcp 0 q 16 0 (by omega) (by omega) hq0.1 hq0.2 (by omega) (by omega) (by omega)) K (by omega) Ints.nil (fun _ => rfl)).mono ?_
  rintro e w' ⟨-, hA, hB⟩
  unfold DownPost
  by_cases hd : aheadB q ((isn + 1) % 4294967296) = true
  · obtain ⟨⟨v, he, ho⟩, x⟩ := hA rfl hd
    refine ⟨_, v, heard, he, ho, Blk.ext K x, x.only g, ?_, by omega⟩
    unfold aheadB at hd
    have := of_decide_eq_true hd
    rw [if_pos (by omega)]
    omega
  · have hd' : aheadB q ((isn + 1) % 4294967296) = false := by simpa using hd
    obtain ⟨⟨v, he, ho⟩, K', x⟩ := hB rfl hd'
    refine ⟨_, v, true, he, ho, K', x, ?_, hq0⟩
    unfold aheadB at hd'
    have := of_decide_eq_false hd'
    dsimp only at *
    by_cases hk : k - hn < 0
    · omega
    · rw [if_neg hk]
      omega
end Go.Proofs.Ytoaahiclmodcgaa
