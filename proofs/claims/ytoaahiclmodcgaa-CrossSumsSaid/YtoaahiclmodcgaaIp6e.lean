/- The contract of ip6.Encode. Conditions: as each theorem states them. -/
import Derived.Test.YtoaahiclmodcgaaIp6
import Derived.Deep.RegionHeld3
import Derived.Deep.DeepCutAuto
import Derived.Deep.DeepMust
namespace Go.Proofs.Ytoaahiclmodcgaa
open Go.RowKit
namespace Pl
/-- A packet's bytes. -/
def head6 (p : P6) (n : Int) : List Int := [96, 0, 0, 0, n / 256, n % 256, p.kind, p.hop]
def enc6 (p : P6) (b : List Int) : List Int := head6 p b.length ++ two p.src.l ++ two p.dst.l ++ b
end Pl

theorem keepAll {a b : World} {B g : Nat} {cs : Array Value} (h : Below B a b) (hg : g < B) (x : ∀ i, a.cell? ⟨g, i, none⟩ = cs[i]?) : ∀ i, b.cell? ⟨g, i, none⟩ = cs[i]? :=
  fun i => (World.cell?_of_block (h.block g hg)).trans (x i)
/-- A world in the midst of a walk is named by what is known of it. -/
theorem at_worldD {P : Program} {c : Code} {Q : Exit → Act → World → Prop} {a : Act} {W : World} (X : World → Prop) (h : X W) (k : ∀ W', X W' → c.wp P Q a W') : c.wp P Q a W := k W h
end Go.Proofs.Ytoaahiclmodcgaa
