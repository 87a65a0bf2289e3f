/- The contract of ip6.Decode. Conditions: as each theorem states them. -/
import Derived.Test.YtoaahiclmodcgaaIp6
import Derived.Test.YtoaahiclmodcgaaOf
import Derived.Test.YtoaahiclmodcgaaOr8
import Derived.Test.YtoaahiclmodcgaaStr
import Derived.Test.YtoaahiclmodcgaaStore
import Derived.Test.YtoaahiclmodcgaaTail
import Derived.BigQuiet
import Derived.Deep.RegionHeld3
import Derived.Deep.DeepCutAuto
namespace Go.Proofs.Ytoaahiclmodcgaa
open Go.RowKit
namespace Pl
/-- Are bytes a packet of sixes? -/
def Is6 (xs : List Int) : Prop := (40 ≤ xs.length ∧ xs.length ≤ 360) ∧ xs.getD 0 0 = 96 ∧ (xs.getD 1 0 = 0 ∧ xs.getD 2 0 = 0 ∧ xs.getD 3 0 = 0) ∧ xs.getD 4 0 * 256 + xs.getD 5 0 = xs.length - 40
def dec6 (xs : List Int) : P6 := ⟨sixAt (xs.drop 8), sixAt (xs.drop 24), xs.getD 7 0, xs.getD 6 0⟩
end Pl
def p60 : P6 := ⟨⟨0, 0, 0, 0, 0, 0, 0, 0⟩, ⟨0, 0, 0, 0, 0, 0, 0, 0⟩, 0, 0⟩

theorem P6.one (p : P6) (a : Option Addr) (n c : Nat) : (p.cells (.slice a n c)).all (·.oneCell') = true := by simp [P6.cells, Value.oneCell']
theorem sto6 {w : World} {R : Nat} (k : Blk w R 55 #[.int .i64 0, .int .i64 0, .int .i64 0, .int .i64 0, .int .i64 0, .int .i64 0, .int .i64 0, .int .i64 0, .int .i64 0, .int .i64 0, .int .i64 0, .int .i64 0, .int .i64 0, .int .i64 0, .int .i64 0, .int .i64 0, .int .i64 0, .int .i64 0, .slice none 0 0]) (p : P6) (a : Option Addr) (n c : Nat) :
    (Instr.storeAt 55 (.pointer (some ⟨R, 0, none⟩)) (.agg #[.int .i64 p.src.x0, .int .i64 p.src.x1, .int .i64 p.src.x2, .int .i64 p.src.x3, .int .i64 p.src.x4, .int .i64 p.src.x5, .int .i64 p.src.x6, .int .i64 p.src.x7, .int .i64 p.dst.x0, .int .i64 p.dst.x1, .int .i64 p.dst.x2, .int .i64 p.dst.x3, .int .i64 p.dst.x4, .int .i64 p.dst.x5, .int .i64 p.dst.x6, .int .i64 p.dst.x7, .int .i64 p.hop, .int .i64 p.kind, .slice a n c])).run Try.prog w = .ok () (w.setRow R (p.cells (.slice a n c))) := k.store rfl Try.sizeP6 (p.one a n c)
theorem sto60 {w : World} {R : Nat} (k : Blk w R 55 #[.int .i64 0, .int .i64 0, .int .i64 0, .int .i64 0, .int .i64 0, .int .i64 0, .int .i64 0, .int .i64 0, .int .i64 0, .int .i64 0, .int .i64 0, .int .i64 0, .int .i64 0, .int .i64 0, .int .i64 0, .int .i64 0, .int .i64 0, .int .i64 0, .slice none 0 0]) :
    (Instr.storeAt 55 (.pointer (some ⟨R, 0, none⟩)) (.agg #[.int .i64 0, .int .i64 0, .int .i64 0, .int .i64 0, .int .i64 0, .int .i64 0, .int .i64 0, .int .i64 0, .int .i64 0, .int .i64 0, .int .i64 0, .int .i64 0, .int .i64 0, .int .i64 0, .int .i64 0, .int .i64 0, .int .i64 0, .int .i64 0, .slice none 0 0])).run Try.prog w = .ok () (w.setRow R #[.int .i64 0, .int .i64 0, .int .i64 0, .int .i64 0, .int .i64 0, .int .i64 0, .int .i64 0, .int .i64 0, .int .i64 0, .int .i64 0, .int .i64 0, .int .i64 0, .int .i64 0, .int .i64 0, .int .i64 0, .int .i64 0, .int .i64 0, .int .i64 0, .slice none 0 0]) := k.store rfl Try.sizeP6 (by simp [Value.oneCell'])
/-- What Decode gives of bytes that are no packet. -/
def Bad6 (e : Ending) : Prop := e = .returned (.tuple #[.agg #[.int .i64 0, .int .i64 0, .int .i64 0, .int .i64 0, .int .i64 0, .int .i64 0, .int .i64 0, .int .i64 0, .int .i64 0, .int .i64 0, .int .i64 0, .int .i64 0, .int .i64 0, .int .i64 0, .int .i64 0, .int .i64 0, .int .i64 0, .int .i64 0, .slice none 0 0], errv 5])

end Go.Proofs.Ytoaahiclmodcgaa
