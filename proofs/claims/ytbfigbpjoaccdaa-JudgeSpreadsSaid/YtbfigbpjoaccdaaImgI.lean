/- The contracts of the specification's Point. -/
import Derived.Test.YtbfigbpjoaccdaaImgH
namespace Go.Proofs.Ytbfigbpjoaccdaa
open Go Go.RowKit Go.Shelf
set_option linter.unusedVariables false
set_option linter.unusedSimpArgs false

theorem cXY (pw k : Nat) : cY pw k * pw + cX pw k = k := by
  have h := Nat.div_add_mod k pw
  rw [Nat.mul_comm] at h
  unfold cX cY
  rw [← Int.natCast_mul, ← Int.natCast_add, h]

theorem rd_at {B : Nat} {W : World} {a : Option Addr} {xs : List Int} {n : Nat} (h : Rd B W a xs) (hn : xs.length = n) (h0 : 0 < n) : ∃ b o, a = some ⟨b, o, none⟩ ∧ b < B ∧ ∀ i, i < n → W.cell? ⟨b, o + i, none⟩ = some (.int .i64 (px xs i)) := by
  rcases h with h | ⟨b, o, h1, h2, h3⟩
  · subst h; simp at hn; omega
  · exact ⟨b, o, h1, h2, fun i hi => by rw [h3 i (by omega)]; rfl⟩

theorem rwithin2 (n m lo hi : Int) (w : World) : True := trivial

end Go.Proofs.Ytbfigbpjoaccdaa
