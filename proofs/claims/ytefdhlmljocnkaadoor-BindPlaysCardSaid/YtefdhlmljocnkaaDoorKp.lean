/- What has changed at some blocks alone. Conditions: as each lemma states them. -/
import Derived.Test.YtefdhlmljocnkaaDoorMapG
import Derived.Test.YtefdhlmljocnkaaDoorPort3
import Derived.Test.YtefdhlmljocnkaaDoorRPort
namespace Go.Proofs.YtefdhlmljocnkaaDoor
open Go.RowKit
/-- Of what was there nothing has changed, but at some blocks. -/
structure Kp (S : List Nat) (a b : World) : Prop where
  os : b.os = a.os
  tape : b.tape = a.tape
  output : b.output = a.output
  size : a.heap.size ≤ b.heap.size
  block : ∀ i, i < a.heap.size → i ∉ S → b.heap[i]? = a.heap[i]?
section
variable {S T : List Nat} {a b c : World}
theorem Kp.refl (S : List Nat) (a : World) : Kp S a a := ⟨rfl, rfl, rfl, Nat.le_refl _, fun _ _ _ => rfl⟩
theorem Kp.trans (h : Kp S a b) (k : Kp S b c) : Kp S a c :=
  ⟨k.os.trans h.os, k.tape.trans h.tape, k.output.trans h.output, Nat.le_trans h.size k.size, fun i hi hn => (k.block i (Nat.lt_of_lt_of_le hi h.size) hn).trans (h.block i hi hn)⟩
theorem Kp.mono (h : Kp S a b) (hs : ∀ g ∈ S, g ∈ T) : Kp T a b := ⟨h.os, h.tape, h.output, h.size, fun i hi hn => h.block i hi fun hm => hn (hs i hm)⟩
theorem Ext.kp (h : Ext a b) (S : List Nat) : Kp S a b := ⟨h.os, h.tape, h.output, h.size, fun i hi _ => h.block i hi⟩
theorem Kp.ofGrown {g : Nat} (h : a.grownBy b (some g)) (hg : g ∈ S) : Kp S a b := ⟨h.os, h.tape, h.output, h.size, fun i hi hn => h.block i hi fun e => hn (by cases e; exact hg)⟩
theorem Kp.ofTwo {g k : Nat} (h : Two a b g k) (hg : g ∈ S) (hk : k ∈ S) : Kp S a b := ⟨h.os, h.tape, h.output, h.size, fun i hi hn => h.block i hi (fun e => hn (e ▸ hg)) (fun e => hn (e ▸ hk))⟩
theorem Kp.ext (h : Kp [] a b) : Ext a b := ⟨h.os, h.tape, h.output, h.size, fun i hi => h.block i hi (fun hm => by cases hm)⟩
theorem Kp.drew (h : Kp S a b) : Kp S a b.drew := ⟨h.os, h.tape, h.output, h.size, h.block⟩
theorem Kp.andExt (h : Kp S a b) (k : Ext b c) : Kp S a c := h.trans (k.kp S)
theorem Kp.row (h : Kp S a b) {k : Nat} (hk : a.heap.size ≤ k) (cs : Array Value) : Kp S a (b.setRow k cs) :=
  ⟨h.os, h.tape, h.output, by simpa using h.size, fun i hi hn => (setRow_other b k i cs (by omega)).trans (h.block i hi hn)⟩
theorem Prt.farRow {gP gB : Nat} {s : PS} (q : Prt a gP gB s) {k : Nat} (h0 : gP ≠ k) (h1 : gB ≠ k) (cs : Array Value) : Prt (a.setRow k cs) gP gB s := ⟨q.ptr.farRow h0 cs, q.row.farRow h1 cs, q.ne, q.n0, q.n1⟩
theorem MapIs.farRow {κ : Type} {K : Keys κ} {g : Nat} {l : List (Ent κ)} {cl : Nat} (q : MapIs K a g l cl) {k : Nat} (hk : g ≠ k) (cs : Array Value) : MapIs K (a.setRow k cs) g l cl := ⟨(setRow_other a k g cs hk).trans q.here, q.old⟩
theorem Kp.below {B : Nat} (h : Kp S a b) (hB : B ≤ a.heap.size) (hS : ∀ g ∈ S, B ≤ g) : Below B a b :=
  ⟨h.os, h.tape, h.output, h.size, fun i hi => h.block i (Nat.lt_of_lt_of_le hi hB) (fun hm => by have := hS i hm; omega)⟩
theorem Below.kp {B : Nat} (q : Below B a b) (h : Kp S b c) (hB : B ≤ b.heap.size) (hS : ∀ g ∈ S, B ≤ g) : Below B a c := q.trans (h.below hB hS)
theorem Blk.kp {t : TypeId} {cs : Array Value} {g : Nat} (q : Blk a g t cs) (h : Kp S a b) (hg : g ∉ S) : Blk b g t cs := (h.block g q.lt hg).trans q
theorem MapIs.kp {κ : Type} {K : Keys κ} {g : Nat} {l : List (Ent κ)} {cl : Nat} (q : MapIs K a g l cl) (h : Kp S a b) (hg : g ∉ S) : MapIs K b g l cl := ⟨(h.block g q.lt hg).trans q.here, q.old⟩
theorem Prt.kp {gP gB : Nat} {s : PS} (q : Prt a gP gB s) (h : Kp S a b) (h0 : gP ∉ S) (h1 : gB ∉ S) : Prt b gP gB s := ⟨q.ptr.kp h h0, q.row.kp h h1, q.ne, q.n0, q.n1⟩
end
end Go.Proofs.YtefdhlmljocnkaaDoor
