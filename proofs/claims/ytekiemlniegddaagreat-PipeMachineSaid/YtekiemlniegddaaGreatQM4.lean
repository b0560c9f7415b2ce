/- Contracts and laws (PpL, PpR, Net, NetB, ND, Cr, JX, JS, PAp, Ap, PpO, PCh, OpP, MpB, MpF). -/
import Derived.Lib.Hide
import Derived.Shelf.Bits.Mul64
import Derived.Laws.CopyOwn
import Derived.Lib.MinMax
import Derived.Maps.AppendAt
import Derived.Deep.Slices
import Derived.Deep.Grids
import Derived.Maps.OwnOps
import Derived.Maps.OwnSet
import Derived.Test.YtekiemlniegddaaGreatQM2
import Derived.Test.YtekiemlniegddaaGreatQM3
import Derived.Test.YtekiemlniegddaaGreatQM1
set_option linter.unusedVariables false
set_option linter.unusedSimpArgs false
namespace Go.Proofs.YtekiemlniegddaaGreat
open Go Go.RowKit Go.Shelf
/-- A picture: sides and values. -/
structure PicN where
 w : Int
 h : Int
 px : List Int
def picAt (ms : List PicN) (i : Nat) : PicN := ms[i]?.getD ⟨0, 0, []⟩
structure StepN where
 op : Int
 a : Int
 b : Int
 pt : PointN
 how : Int
 kw : Int
 kh : Int
 taps : List Int
 bd : Int
 sw : Int
 sh : Int
 bits : List Bool
def noStep : StepN := ⟨0, 0, 0, ⟨0, 0, 0, 0, 0⟩, 0, 0, 0, [], 0, 0, 0, []⟩
def stAt (ss : List StepN) (i : Nat) : StepN := ss[i]?.getD noStep
structure PipeN where
 w : Int
 h : Int
 inp : Int
 ss : List StepN
/-- The images that a step uses. -/
def opsN (s : StepN) : List Int := if s.op = 2 ∧ s.a ≠ s.b then [s.a, s.b] else [s.a]
/-- What the operation of a step needs is valid. -/
def needB (s : StepN) : Bool :=
 if s.op = 1 then s.pt.ok else if s.op = 2 then decide (1 ≤ s.how ∧ s.how ≤ 6) else if s.op = 3 then kernOk s.kw s.kh s.taps && decide (1 ≤ s.bd ∧ s.bd ≤ 3) else if s.op = 4 ∨ s.op = 5 then shapeOk s.sw s.sh s.bits else false
/-- The images that a step uses are there. -/
def refB (inp : Int) (i : Nat) (s : StepN) : Bool := inR s.a 0 (inp + i - 1) && (!decide (s.op = 2) || inR s.b 0 (inp + i - 1))
def sizeB (P : PipeN) : Bool := (inR P.w 1 16 && inR P.h 1 16) && (inR P.inp 1 3 && (decide (1 ≤ P.ss.length) && decide (P.ss.length ≤ 12)))
def stepsB (inp : Int) (ss : List StepN) : Nat → Bool
 | 0 => true
 | k + 1 => stepsB inp ss k && (needB (stAt ss k) && refB inp k (stAt ss k))
def pipeB (P : PipeN) : Bool := sizeB P && stepsB P.inp P.ss P.ss.length
/-- The result of a step, or an error. -/
def appS (s : StepN) (ms : List PicN) : ImR :=
 if s.op = 1 then pointS (picAt ms s.a.toNat).w (picAt ms s.a.toNat).h (picAt ms s.a.toNat).px s.pt
 else if s.op = 2 then zipS (picAt ms s.a.toNat).w (picAt ms s.a.toNat).h (picAt ms s.a.toNat).px (picAt ms s.b.toNat).w (picAt ms s.b.toNat).h (picAt ms s.b.toNat).px s.how
 else if s.op = 3 then convS (picAt ms s.a.toNat).w (picAt ms s.a.toNat).h (picAt ms s.a.toNat).px s.kw s.kh s.taps s.bd
 else if s.op = 4 then morS true (picAt ms s.a.toNat).w (picAt ms s.a.toNat).h (picAt ms s.a.toNat).px s.sw s.sh s.bits
 else if s.op = 5 then morS false (picAt ms s.a.toNat).w (picAt ms s.a.toNat).h (picAt ms s.a.toNat).px s.sw s.sh s.bits
 else noIm 30
def resN (r : ImR) : PicN := ⟨r.w, r.h, r.px⟩
/-- All images behind k steps. -/
def afterN (ss : List StepN) (ms : List PicN) : Nat → List PicN
 | 0 => ms
 | k + 1 => afterN ss ms k ++ [resN (appS (stAt ss k) (afterN ss ms k))]
theorem afterN_length (ss : List StepN) (ms : List PicN) : ∀ k, (afterN ss ms k).length = ms.length + k
 | 0 => rfl
 | k + 1 => by rw [afterN, List.length_append, afterN_length ss ms k]; rfl
/-- So many images, all valid and of a size. -/
def givenB (ms : List PicN) (n w h : Int) : Bool := decide ((ms.length : Int) = n) && ms.all (fun m => vld m.w m.h m.px && (decide (m.w = w) && decide (m.h = h)))
def meanN (P : PipeN) (ms : List PicN) : PicN := picAt (afterN P.ss ms P.ss.length) (ms.length + P.ss.length - 1)
def meanS (P : PipeN) (ms : List PicN) : ImR :=
 if pipeB P = true then (if givenB ms P.inp P.w P.h = true then { w := (meanN P ms).w, h := (meanN P ms).h, px := (meanN P ms).px, err := 0 } else noIm 2) else noIm 30
def onePic : PicN := ⟨1, 1, [0]⟩
/-- A step asked of a single image of one pixel tells what it needs. -/
theorem app_one (s : StepN) : (appS { s with a := 0, b := 0 } [onePic]).err = 0 ↔ needB s = true := by
 have hv : vld 1 1 [0] = true := by decide
 unfold appS needB
 simp only [picAt, onePic, Int.toNat_zero, List.getElem?_cons_zero, Option.getD_some]
 by_cases h1 : s.op = 1
 ·rw [if_pos h1, if_pos h1]; unfold pointS; rw [if_pos hv]; split <;> simp_all [noIm]
 rw [if_neg h1, if_neg h1]
 by_cases h2 : s.op = 2
 ·rw [if_pos h2, if_pos h2]; unfold zipS; rw [if_pos hv, if_pos hv, if_pos (by decide)]; split <;> simp_all [noIm]
 rw [if_neg h2, if_neg h2]
 by_cases h3 : s.op = 3
 ·rw [if_pos h3, if_pos h3]; unfold convS; rw [if_pos hv]; split
  ·split <;> simp_all [noIm]
  ·simp_all [noIm]
 rw [if_neg h3, if_neg h3]
 by_cases h4 : s.op = 4
 ·rw [if_pos h4, if_pos (.inl h4)]; unfold morS; rw [if_pos hv]; split <;> simp_all [noIm]
 rw [if_neg h4]
 by_cases h5 : s.op = 5
 ·rw [if_pos h5, if_pos (.inr h5)]; unfold morS; rw [if_pos hv]; split <;> simp_all [noIm]
 rw [if_neg h5, if_neg (by rintro (h | h); exact h4 h; exact h5 h)]
 simp [noIm]
end Go.Proofs.YtekiemlniegddaaGreat
namespace Go.Proofs.YtekiemlniegddaaGreat
open Go Go.RowKit Go.Shelf
/-- The slice at 'a' reads as the images 'ms', in blocks below 'B'. -/
def RdPs (B : Nat) (W : World) (a : Option Addr) (ms : List PicN) : Prop :=
 ms = [] ∨ ∃ b o, a = some ⟨b, o, none⟩ ∧ b < B ∧ ∀ i, i < ms.length → ∃ pa pc, W.cell? ⟨b, o + i * 3, none⟩ = some (.int .i64 (picAt ms i).w) ∧ W.cell? ⟨b, o + i * 3 + 1, none⟩ = some (.int .i64 (picAt ms i).h) ∧
  W.cell? ⟨b, o + i * 3 + 2, none⟩ = some (.slice pa (picAt ms i).px.length pc) ∧ Rd B W pa (picAt ms i).px ∧ (pa = none → pc = 0)
theorem RdPs.below {B B' : Nat} {W W' : World} {a : Option Addr} {ms : List PicN} (h : RdPs B W a ms) (hB : B ≤ B') (hb : Below B' W W') : RdPs B W' a ms := by
 rcases h with h | ⟨b, o, h1, h2, h3⟩
 ·exact .inl h
 ·refine .inr ⟨b, o, h1, h2, fun i hi => ?_⟩
  obtain ⟨pa, pc, e1, e2, e3, e4, e5⟩ := h3 i hi
  exact ⟨pa, pc, (hb.cell (p := ⟨b, o + i * 3, none⟩) (by show b < B'; omega)).trans e1, (hb.cell (p := ⟨b, o + i * 3 + 1, none⟩) (by show b < B'; omega)).trans e2, (hb.cell (p := ⟨b, o + i * 3 + 2, none⟩) (by show b < B'; omega)).trans e3, e4.below hB hb, e5⟩
theorem RdPs.mono {B B' : Nat} {W : World} {a : Option Addr} {ms : List PicN} (h : RdPs B W a ms) (hB : B ≤ B') : RdPs B' W a ms := by
 rcases h with h | ⟨b, o, h1, h2, h3⟩
 ·exact .inl h
 ·refine .inr ⟨b, o, h1, by omega, fun i hi => ?_⟩
  obtain ⟨pa, pc, e1, e2, e3, e4, e5⟩ := h3 i hi
  exact ⟨pa, pc, e1, e2, e3, e4.mono hB, e5⟩
theorem RdPs.later {W W' : World} {a : Option Addr} {ms : List PicN} (h : RdPs W.heap.size W a ms) (hb : Below W.heap.size W W') : RdPs W'.heap.size W' a ms := (h.below (Nat.le_refl _) hb).mono hb.size
theorem RdPs.at {B : Nat} {W : World} {a : Option Addr} {ms : List PicN} (h : RdPs B W a ms) {i : Nat} (hi : i < ms.length) :
  ∃ b o, a = some ⟨b, o, none⟩ ∧ b < B ∧ ∃ pa pc, W.cell? ⟨b, o + i * 3, none⟩ = some (.int .i64 (picAt ms i).w) ∧ W.cell? ⟨b, o + i * 3 + 1, none⟩ = some (.int .i64 (picAt ms i).h) ∧
   W.cell? ⟨b, o + i * 3 + 2, none⟩ = some (.slice pa (picAt ms i).px.length pc) ∧ Rd B W pa (picAt ms i).px ∧ (pa = none → pc = 0) := by
 rcases h with h | ⟨b, o, h1, h2, h3⟩
 ·subst h; simp at hi
 ·obtain ⟨pa, pc, e⟩ := h3 i hi
  exact ⟨b, o, h1, h2, pa, pc, e⟩
/-- The cells of a step. -/
def stepCells (s : StepN) (ka : Option Addr) (kc : Nat) (sa : Option Addr) (sc : Nat) : List Value :=
 [.int .u8 s.op, .int .i64 s.a, .int .i64 s.b, .int .i64 s.pt.mul, .int .i64 s.pt.add, .int .i64 s.pt.div, .int .i64 s.pt.lo, .int .i64 s.pt.hi, .int .u8 s.how, .int .i64 s.kw, .int .i64 s.kh, .slice ka s.taps.length kc, .int .u8 s.bd, .int .i64 s.sw, .int .i64 s.sh, .slice sa s.bits.length sc]
/-- The step's cells stand at a place, and its lists can be read. -/
structure StAt (B : Nat) (W : World) (b o : Nat) (s : StepN) (ka : Option Addr) (kc : Nat) (sa : Option Addr) (sc : Nat) : Prop where
 cell : ∀ j v, (stepCells s ka kc sa sc)[j]? = some v → W.cell? ⟨b, o + j, none⟩ = some v
 taps : Rd B W ka s.taps
 bits : RdB B W sa s.bits
theorem StAt.below {B B' : Nat} {W W' : World} {b o : Nat} {s : StepN} {ka sa : Option Addr} {kc sc : Nat} (h : StAt B W b o s ka kc sa sc) (hbB : b < B') (hB : B ≤ B') (hb : Below B' W W') : StAt B W' b o s ka kc sa sc :=
 ⟨fun j v hv => (hb.cell (p := ⟨b, o + j, none⟩) hbB).trans (h.cell j v hv), h.taps.below hB hb, h.bits.below hB hb⟩
/-- The slice at 'a' reads as the steps 'ss'. -/
def RdSs (B : Nat) (W : World) (a : Option Addr) (ss : List StepN) : Prop :=
 ss = [] ∨ ∃ b o, a = some ⟨b, o, none⟩ ∧ b < B ∧ ∀ i, i < ss.length → ∃ ka kc sa sc, StAt B W b (o + i * 16) (stAt ss i) ka kc sa sc
theorem RdSs.below {B B' : Nat} {W W' : World} {a : Option Addr} {ss : List StepN} (h : RdSs B W a ss) (hB : B ≤ B') (hb : Below B' W W') : RdSs B W' a ss := by
 rcases h with h | ⟨b, o, h1, h2, h3⟩
 ·exact .inl h
 ·refine .inr ⟨b, o, h1, h2, fun i hi => ?_⟩
  obtain ⟨ka, kc, sa, sc, e⟩ := h3 i hi
  exact ⟨ka, kc, sa, sc, e.below (by omega) hB hb⟩
theorem StAt.mono {B B' : Nat} {W : World} {b o : Nat} {s : StepN} {ka sa : Option Addr} {kc sc : Nat} (h : StAt B W b o s ka kc sa sc) (hB : B ≤ B') : StAt B' W b o s ka kc sa sc := ⟨h.cell, h.taps.mono hB, h.bits.mono hB⟩
theorem RdSs.mono {B B' : Nat} {W : World} {a : Option Addr} {ss : List StepN} (h : RdSs B W a ss) (hB : B ≤ B') : RdSs B' W a ss := by
 rcases h with h | ⟨b, o, h1, h2, h3⟩
 ·exact .inl h
 ·refine .inr ⟨b, o, h1, by omega, fun i hi => ?_⟩
  obtain ⟨ka, kc, sa, sc, e⟩ := h3 i hi
  exact ⟨ka, kc, sa, sc, e.mono hB⟩
theorem RdSs.later {W W' : World} {a : Option Addr} {ss : List StepN} (h : RdSs W.heap.size W a ss) (hb : Below W.heap.size W W') : RdSs W'.heap.size W' a ss := (h.below (Nat.le_refl _) hb).mono hb.size
theorem RdPs.bm {W W' : World} {a : Option Addr} {l : List PicN} (h : RdPs W.heap.size W a l) (g : Below W.heap.size W W') : RdPs W'.heap.size W' a l := (h.below (Nat.le_refl _) g).mono g.size
end Go.Proofs.YtekiemlniegddaaGreat
namespace Go.Proofs.YtekiemlniegddaaGreat
/-- A layer: for each of its numbers the weights of those before it, and a bias. -/
structure LayN where
 ws : List (List Int)
 bs : List Int
/-! ### Verdicts and certificates -/
variable {Ls : List LayN} {low high : Int}
end Go.Proofs.YtekiemlniegddaaGreat
namespace Go.Proofs.YtekiemlniegddaaGreat
def nIn (lo hi x : Int) : Bool := decide (lo ≤ x) && decide (x ≤ hi)
theorem nIn_true {lo hi x : Int} : nIn lo hi x = true ↔ lo ≤ x ∧ x ≤ hi := by simp [nIn]
theorem nIn_false {lo hi x : Int} : nIn lo hi x = false ↔ x < lo ∨ hi < x := by
 rw [Bool.eq_false_iff, ne_eq, nIn_true]; omega
/-! ### The numbers behind each layer -/
/-! ### How large they are -/
def Bn : Nat → Int
 | 0 => 65280
 | i + 1 => 1000000 + 16000 * Bn i
end Go.Proofs.YtekiemlniegddaaGreat
namespace Go.Proofs.YtekiemlniegddaaGreat
open Go Go.RowKit Go.Shelf
/-- What is read later. -/
theorem later_i {W W' : World} {a : Option Addr} {xs : List Int} (h : Rd W.heap.size W a xs) (hb : Below W.heap.size W W') : Rd W'.heap.size W' a xs := (h.below (Nat.le_refl _) hb).mono hb.size
end Go.Proofs.YtekiemlniegddaaGreat
namespace Go.Proofs.YtekiemlniegddaaGreat
open Go Go.RowKit Go.Shelf
set_option maxRecDepth 100000 in
set_option maxHeartbeats 2000000 in
theorem rw1 (lo hi x : Int) (v : Bool) (hv : nIn lo hi x = v) (w : World) :
  Calls Tryz.prog 46 #[.int .i64 x, .int .i64 lo, .int .i64 hi] w fun e w' => e = .returned (.bool v) ∧ w = w' := by
 have hvH := Lib.hid hv
 clear hv
 by_cases h1 : lo ≤ x
 case neg =>
  have hvf : v = false := by rw [← hvH.out]; exact nIn_false.2 (by omega)
  subst hvf
  go_enter Tryz.func46, Tryz.ntmps46
  go_wp2
  go_ret
  exact ⟨rfl, rfl⟩
 by_cases h2 : x ≤ hi
 case neg =>
  have hvf : v = false := by rw [← hvH.out]; exact nIn_false.2 (by omega)
  subst hvf
  go_enter Tryz.func46, Tryz.ntmps46
  go_wp2
  go_ret
  exact ⟨rfl, rfl⟩
 have hvf : v = true := by rw [← hvH.out]; exact nIn_true.2 (by omega)
 subst hvf
 go_enter Tryz.func46, Tryz.ntmps46
 go_wp2
 go_ret
 exact ⟨rfl, rfl⟩
end Go.Proofs.YtekiemlniegddaaGreat
namespace Go.Proofs.YtekiemlniegddaaGreat
open Go Go.RowKit Go.Shelf
/-! ### Mul -/
theorem row_whole {W : World} {base g n : Nat} {e : TypeId} {xs : List Value} (h : W.ownsRow base e 1 (.slice (some ⟨g, 0, none⟩) n n) n xs) : W.heap[g]? = some (.cells xs.toArray e (0, 0)) := by
 rcases h.2 with ⟨h1, _⟩ | ⟨g', cap, cur, h1, _, h2, _, _, h4, h5⟩
 ·cases h1
 ·simp only [Value.slice.injEq, Option.some.injEq, Addr.mk.injEq, and_true, true_and] at h1
  obtain ⟨rfl, rfl⟩ := h1
  rw [List.take_of_length_le (by simp; omega)] at h5
  rw [h2, ← h5]
end Go.Proofs.YtekiemlniegddaaGreat
namespace Go.Proofs.YtekiemlniegddaaGreat
open Go Go.RowKit Go.Shelf
theorem jrow_weaken {W : World} {base base' : Nat} {e : TypeId} {size : Nat} {v : Value} {k : Nat} {xs : List Value} (h : W.ownsRow base e size v k xs) (hb : base' ≤ base) : W.ownsRow base' e size v k xs := by
 refine ⟨h.1, ?_⟩
 rcases h.2 with h1 | ⟨g, cap, cur, h1, h2, h3⟩
 ·exact .inl h1
 ·exact .inr ⟨g, cap, cur, h1, Nat.le_trans hb h2, h3⟩
end Go.Proofs.YtekiemlniegddaaGreat
namespace Go.Proofs.YtekiemlniegddaaGreat
open Go Go.RowKit Go.Shelf
/-- The value of a step. -/
abbrev stepv (s : StepN) (ka : Option Addr) (kc : Nat) (sa : Option Addr) (sc : Nat) : Value := .agg #[.int .u8 s.op, .int .i64 s.a, .int .i64 s.b, .int .i64 s.pt.mul, .int .i64 s.pt.add, .int .i64 s.pt.div, .int .i64 s.pt.lo, .int .i64 s.pt.hi, .int .u8 s.how, .int .i64 s.kw, .int .i64 s.kh, .slice ka s.taps.length kc, .int .u8 s.bd, .int .i64 s.sw, .int .i64 s.sh, .slice sa s.bits.length sc]
/-- What a step's numbers are, as they came in. -/
structure StepIn (s : StepN) : Prop where
 op : 0 ≤ s.op ∧ s.op ≤ 255
 how : 0 ≤ s.how ∧ s.how ≤ 255
 bd : 0 ≤ s.bd ∧ s.bd ≤ 255
 tl : s.taps.length ≤ 9223372036854775807
 bl : s.bits.length ≤ 9223372036854775807
theorem row_put3b {W : World} {base : Nat} {e : TypeId} {size : Nat} {v : Value} {k : Nat} {xs : List Value} (h : W.ownsRow base e size v k xs) {B : Nat} (hne : some B ≠ v.ownBlock) (x y z : Value) : (put3 W B x y z).ownsRow base e size v k xs :=
 row_setCell (row_setCell (row_setCell h (a := ⟨B, 0, none⟩) hne x) (a := ⟨B, 1, none⟩) hne y) (a := ⟨B, 2, none⟩) hne z
set_option maxRecDepth 100000 in
set_option maxHeartbeats 4000000 in
theorem operands_any (s : StepN) (hs : StepIn s) (ka sa : Option Addr) (kc sc : Nat) (w : World) :
  Calls Tryz.prog 100 #[stepv s ka kc sa sc] w fun e w' => ∃ a c, e = .returned (.slice a (opsN s).length c) ∧ Rd w'.heap.size w' a (opsN s) ∧ Below w.heap.size w w' := by
 have hB : Below w.heap.size w w := Below.refl _ _
 have hop := hs.op
 obtain ⟨V1, hEV1, hbV1, k1⟩ := newB w 76 #[.int .u8 s.op, .int .i64 s.a, .int .i64 s.b, .int .i64 s.pt.mul, .int .i64 s.pt.add, .int .i64 s.pt.div, .int .i64 s.pt.lo, .int .i64 s.pt.hi, .int .u8 s.how, .int .i64 s.kw, .int .i64 s.kh, .slice ka s.taps.length kc, .int .u8 s.bd, .int .i64 s.sw, .int .i64 s.sh, .slice sa s.bits.length sc]
 replace hB := tmB hB hbV1
 clear hbV1
 obtain ⟨m0, m1, m2, m3, m4, m5, m6, m7, m8, m9, m10, m11, m12, m13, m14, m15⟩ := cz16 k1
 unfold opsN
 by_cases h2 : s.op = 2
 case pos =>
  have e1 : (s.op == 2) = true := by simp [h2]
  by_cases hab : s.a = s.b
  case pos =>
   have e2 : (s.a != s.b) = false := by simp [hab]
   have e3 : (s.a == s.b) = true := by simp [hab]
   rw [if_neg (fun h => h.2 hab)]
   clear h2 hab
   have hbv : Below V1.heap.size V1 (V1.alloc (.cells #[.int .i64 s.a] 3)) := jb_al (Below.refl _ V1) _
   have kv := Blk.new V1 3 #[.int .i64 s.a]
   go_enter Tryz.func100, Tryz.ntmps100
   go_wp2_with fail
   go_ret
   exact ⟨_, _, rfl, .inr ⟨_, 0, rfl, kv.lt, fun i hi => by
    have hi2 : i < 1 := hi
    obtain rfl : i = 0 := by omega
    exact kv.cell (i := 0) rfl⟩, hB.trans (hbv.mono hB.size)⟩
  case neg =>
   have e2 : (s.a != s.b) = true := by simp [hab]
   have e3 : (s.a == s.b) = false := by simp [hab]
   rw [if_pos ⟨h2, hab⟩]
   clear h2 hab
   have hbv : Below V1.heap.size V1 (V1.alloc (.cells #[.int .i64 s.a, .int .i64 s.b] 3)) := jb_al (Below.refl _ V1) _
   have kv := Blk.new V1 3 #[.int .i64 s.a, .int .i64 s.b]
   go_enter Tryz.func100, Tryz.ntmps100
   go_wp2_with fail
   go_ret
   exact ⟨_, _, rfl, .inr ⟨_, 0, rfl, kv.lt, fun i hi => by
    have hi2 : i < 2 := hi
    rcases (show i = 0 ∨ i = 1 by omega) with rfl | rfl
    ·exact kv.cell (i := 0) rfl
    ·exact kv.cell (i := 1) rfl⟩, hB.trans (hbv.mono hB.size)⟩
 case neg =>
  have e1 : (s.op == 2) = false := by simp [h2]
  rw [if_neg (fun h => h2 h.1)]
  try clear h2
  have hbv : Below V1.heap.size V1 (V1.alloc (.cells #[.int .i64 s.a] 3)) := jb_al (Below.refl _ V1) _
  have kv := Blk.new V1 3 #[.int .i64 s.a]
  go_enter Tryz.func100, Tryz.ntmps100
  go_wp2_with fail
  go_ret
  exact ⟨_, _, rfl, .inr ⟨_, 0, rfl, kv.lt, fun i hi => by
   have hi2 : i < 1 := hi
   obtain rfl : i = 0 := by omega
   exact kv.cell (i := 0) rfl⟩, hB.trans (hbv.mono hB.size)⟩
set_option maxRecDepth 100000 in
set_option maxHeartbeats 8000000 in
theorem apply_any (s : StepN) (hs : StepIn s) (ka sa : Option Addr) (kc sc : Nat) (ms : List PicN) (a : Option Addr) (c n : Nat) (hn : ms.length = n) (hpl : ∀ i, i < n → (picAt ms i).px.length ≤ 9223372036854775807) (hA0 : 0 ≤ s.a) (hA1 : s.a < n) (hBb : s.op = 2 → 0 ≤ s.b ∧ s.b < n)
  (w : World) (hr : RdPs w.heap.size w a ms) (ht : Rd w.heap.size w ka s.taps) (hbt : RdB w.heap.size w sa s.bits) :
  Calls Tryz.prog 79 #[stepv s ka kc sa sc, .slice a n c] w (RetIm w.heap.size (appS s ms) w) := by
 have hB : Below w.heap.size w w := Below.refl _ _
 have hop := hs.op
 have hhow := hs.how
 have hbdr := hs.bd
 have htl := hs.tl
 have hbl := hs.bl
 obtain ⟨A, hA⟩ : ∃ A : Nat, s.a = (A : Int) := ⟨s.a.toNat, by omega⟩
 have hAn : A < n := by omega
 have hrdA := fun (i : Nat) (hi : i < n) => hr.at (i := i) (by rw [hn]; exact hi)
 have hplH := Lib.hid hpl
 obtain ⟨b, o, hab, hbl0, pa, pc, p0, p1, p2, rA, _⟩ := hrdA A hAn
 obtain ⟨R, hR⟩ : ∃ R, appS s ms = R := ⟨_, rfl⟩
 rw [hR]
 unfold appS at hR
 rw [show s.a.toNat = A by omega] at hR
 obtain ⟨⟨mw, mh, mx⟩, hM⟩ : ∃ M, picAt ms A = M := ⟨_, rfl⟩
 rw [hM] at p0 p1 p2 rA hR
 have hxl : mx.length ≤ 9223372036854775807 := by have := hpl A hAn; rw [hM] at this; exact this
 simp only at p0 p1 p2 rA hR
 obtain ⟨l, hl⟩ : ∃ l, mx.length = l := ⟨_, rfl⟩
 rw [hl] at p2 hxl
 obtain ⟨tl, htl0⟩ : ∃ l, s.taps.length = l := ⟨_, rfl⟩
 obtain ⟨bl, hbl1⟩ : ∃ l, s.bits.length = l := ⟨_, rfl⟩
 subst hab
 unfold stepv
 have hlH := Lib.hid hl
 have htlH := Lib.hid htl0
 have hblH := Lib.hid hbl1
 rw [htl0] at htl ⊢
 rw [hbl1] at hbl ⊢
 clear hpl hl htl0 hbl1 hM
 rw [hA]
 obtain ⟨D0, hD0⟩ : ∃ D : Int, s.b = D := ⟨_, rfl⟩
 rw [hD0] at hBb hR ⊢
 clear hD0
 obtain ⟨V1, hEV1, hbV1, k2⟩ := newB w 76 #[.int .u8 s.op, .int .i64 (A : Int), .int .i64 D0, .int .i64 s.pt.mul, .int .i64 s.pt.add, .int .i64 s.pt.div, .int .i64 s.pt.lo, .int .i64 s.pt.hi, .int .u8 s.how, .int .i64 s.kw, .int .i64 s.kh, .slice ka tl kc, .int .u8 s.bd, .int .i64 s.sw, .int .i64 s.sh, .slice sa bl sc]
 replace hr := hr.later hbV1
 replace rA := later_i rA hbV1
 replace ht := later_i ht hbV1
 replace hbt := ((hbt.below (Nat.le_refl _) hbV1).mono hbV1.size)
 replace hB := tmB hB hbV1
 clear hbV1
 obtain ⟨m0, m1, m2, m3, m4, m5, m6, m7, m8, m9, m10, m11, m12, m13, m14, m15⟩ := cz16 k2
 have hle4 := hB.size
 obtain ⟨V2, hEV2, hbV2, k4⟩ := newB V1 32 #[.int .i64 0, .int .i64 0, .slice none 0 0]
 clear m0 m1 m2 m3 m4 m5 m6 m7 m8 m9 m10 m11 m12 m13 m14 m15
 replace k2 := k2.below hbV2 k2.lt
 replace hr := hr.later hbV2
 replace rA := later_i rA hbV2
 replace ht := later_i ht hbV2
 replace hbt := ((hbt.below (Nat.le_refl _) hbV2).mono hbV2.size)
 replace hB := tmB hB hbV2
 clear hbV2
 obtain ⟨m0, m1, m2, m3, m4, m5, m6, m7, m8, m9, m10, m11, m12, m13, m14, m15⟩ := cz16 k2
 have z0 := k4.cell (i := 0) rfl
 have fz0 := k4.frozen 0
 have z1 := k4.cell (i := 1) rfl
 have fz1 := k4.frozen 1
 have z2 := k4.cell (i := 2) rfl
 have fz2 := k4.frozen 2
 have l2 := k2.lt
 have l4 := k4.lt
 have hbV : b < V2.heap.size := by have := hB.size; omega
 have y0 := (hB.cell (p := ⟨b, o + A * 3, none⟩) hbl0).trans p0
 have y1 := (hB.cell (p := ⟨b, o + A * 3 + 1, none⟩) hbl0).trans p1
 have y2 := (hB.cell (p := ⟨b, o + A * 3 + 2, none⟩) hbl0).trans p2
 by_cases h1 : s.op = 1
 case pos =>
  have f1 : (s.op == 1) = true := by simp [h1]
  rw [if_pos h1] at hR
  clear h1
  go_enter Tryz.func79, Tryz.ntmps79
  have hS : Below V2.heap.size V2 V2.drew := (Below.refl _ _).drew
  go_wp2_with fail
  refine plain_region (fun W' => Below V2.heap.size V2 W') 10 12 (by kernel_rfl) rfl ?_
  simp only [Array.replicate_succ, Array.replicate_zero, List.push_toArray, List.nil_append, List.cons_append]
  obtain ⟨X0, hXX0⟩ : ∃ X : World, V2.drew = X := ⟨_, rfl⟩
  rw [hXX0] at hS ⊢
  clear hXX0
  have FA0 := Lib.hid (fun w' (hS' : (fun W' => Below V2.heap.size V2 W') w') => And.intro (cz16 (k2.below hS' l2)) (And.intro ((hS'.cell (p := ⟨b, o + A * 3, none⟩) hbV).trans y0) (And.intro ((hS'.cell (p := ⟨b, o + A * 3 + 1, none⟩) hbV).trans y1) ((hS'.cell (p := ⟨b, o + A * 3 + 2, none⟩) hbV).trans y2))))
  refine tkz 0 rfl hS (fun w' hS' => by go_simp; rfl) ?_
  simp only [nrz]
  refine tkz 1 rfl hS (fun w' hS' => by go_simp; rfl) ?_
  simp only [nrz]
  refine tkz 2 rfl hS (fun w' hS' => by obtain ⟨⟨fm0, fm1, fm2, fm3, fm4, fm5, fm6, fm7, fm8, fm9, fm10, fm11, fm12, fm13, fm14, fm15⟩, fy0, fy1, fy2⟩ := FA0.out w' hS'; clear hS'; go_simp; rfl) ?_
  simp only [nrz]
  refine tkz 3 (v := ?r3v3) rfl hS (fun w' hS' => ?r3y3) ?r3z3
  case r3y3 =>
   go_simp
   try go_ints
   first
   | rfl
   | (rw [if_pos (by omega)]; done)
   | rw [if_pos ⟨by omega, by omega⟩]
  simp only [nrz]
  refine tkz 4 rfl hS (fun w' hS' => by obtain ⟨⟨fm0, fm1, fm2, fm3, fm4, fm5, fm6, fm7, fm8, fm9, fm10, fm11, fm12, fm13, fm14, fm15⟩, fy0, fy1, fy2⟩ := FA0.out w' hS'; clear hS'; go_simp; rfl) ?_
  simp only [nrz]
  refine tkz 5 rfl hS (fun w' hS' => by go_simp; rfl) ?_
  simp only [nrz]
  refine tkz 6 rfl hS (fun w' hS' => by obtain ⟨⟨fm0, fm1, fm2, fm3, fm4, fm5, fm6, fm7, fm8, fm9, fm10, fm11, fm12, fm13, fm14, fm15⟩, fy0, fy1, fy2⟩ := FA0.out w' hS'; clear hS'; go_simp; rfl) ?_
  simp only [nrz]
  refine step_op 7 (by kernel_rfl) rfl (fun K hK => ?_)
  rw [if_pos (by rfl)]
  go_simp
  have hc := Point_any mw mh pa pc l mx hlH s.pt X0 hxl (later_i rA hS)
  unfold RetIm at hc
  rw [hR] at hc
  refine hc.mono ?_
  clear hc
  rintro e X1 ⟨⟨v, rfl, t1, rfl, hrow⟩, hb⟩
  obtain ⟨qa, qc, rfl⟩ := row_slice hrow
  have hrowb := jrow_weaken hrow (show w.heap.size ≤ X0.heap.size by have := hS.size; have := hB.size; omega)
  have hS1 : Below V2.heap.size V2 X1 := hS.trans (hb.mono hS.size)
  clear hb hrow
  refine hK.out _ _ (fun h => hS1) ?_
  clear hK K
  try simp only [Act.put, nrz]
  refine tkz 8 rfl hS1 (fun w' hS' => by go_simp; rfl) ?_
  simp only [nrz]
  refine tkz 9 rfl hS1 (fun w' hS' => by go_simp; rfl) ?_
  simp only [nrz]
  refine step_op 10 (by kernel_rfl) rfl (fun K hK => ?_)
  have kz := k4.below hS1 l4
  obtain ⟨z0, z1, z2⟩ := cz3 kz
  have fz0 := kz.frozen 0
  have fz1 := kz.frozen 1
  have fz2 := kz.frozen 2
  rw [if_pos (by rfl)]
  go_simp
  refine hK.out _ _ (fun h => absurd h (by omega)) ?_
  clear hK K
  try simp only [Act.put, nrz]
  refine step_op 11 (by kernel_rfl) rfl (fun K hK => ?_)
  rw [if_pos (by rfl)]
  go_simp
  refine hK.out _ _ (fun h => absurd h (by omega)) ?_
  clear hK K
  try simp only [Act.put, nrz]
  refine done_ops (by kernel_rfl) ?_
  have kf := put3_blk kz (.int .i64 R.w) (.int .i64 R.h) (.slice qa R.px.length qc)
  have rowf := row_put3b hrowb (kz.not_row (by decide) hrowb) (.int .i64 R.w) (.int .i64 R.h) (.slice qa R.px.length qc)
  have hbf : Below w.heap.size w (put3 X1 (V1.heap.size) (.int .i64 R.w) (.int .i64 R.h) (.slice qa R.px.length qc)) := (hB.trans (hS1.mono hB.size)).trans (put3_below hle4 _ _ _)
  obtain ⟨g0, g1, g2⟩ := cz3 kf
  go_wp2_with fail
  exact bodyPost_ret (v := .tuple #[imv R.w R.h qa R.px.length qc, .int .i64 R.err]) (by simp [results, Tryz.results79, go_sem, g0, g1, g2]) rfl ⟨⟨_, rfl, _, rfl, rowf⟩, hbf⟩
 case neg =>
  have f1 : (s.op == 1) = false := by simp [h1]
  rw [if_neg h1] at hR
  clear h1
  by_cases h2 : s.op = 2
  case pos =>
   have f2 : (s.op == 2) = true := by simp [h2]
   rw [if_pos h2] at hR
   obtain ⟨hb1, hb2⟩ := hBb h2
   clear h2
   obtain ⟨D, rfl⟩ : ∃ D : Nat, D0 = (D : Int) := ⟨D0.toNat, by omega⟩
   have hDn : D < n := by omega
   obtain ⟨b', o', hbb, _, pb, pd, t0, t1, t2, rD, _⟩ := hrdA D hDn
   simp only [Option.some.injEq, Addr.mk.injEq, and_true] at hbb
   obtain ⟨rfl, rfl⟩ := hbb
   rw [Int.toNat_natCast] at hR
   obtain ⟨⟨nw, nh, nx⟩, hM2⟩ : ∃ M, picAt ms D = M := ⟨_, rfl⟩
   rw [hM2] at t0 t1 t2 rD hR
   have hyl : nx.length ≤ 9223372036854775807 := by have := hplH.out D hDn; rw [hM2] at this; exact this
   simp only at t0 t1 t2 rD hR
   obtain ⟨l', hl'⟩ : ∃ l, nx.length = l := ⟨_, rfl⟩
   rw [hl'] at t2 hyl
   have hlH' := Lib.hid hl'
   have y0' := (hB.cell (p := ⟨b, o + D * 3, none⟩) hbl0).trans t0
   have y1' := (hB.cell (p := ⟨b, o + D * 3 + 1, none⟩) hbl0).trans t1
   have y2' := (hB.cell (p := ⟨b, o + D * 3 + 2, none⟩) hbl0).trans t2
   replace rD := later_i rD hB
   clear hl' hM2
   go_enter Tryz.func79, Tryz.ntmps79
   have hS : Below V2.heap.size V2 V2.drew := (Below.refl _ _).drew
   go_wp2_with fail
   refine plain_region (fun W' => Below V2.heap.size V2 W') 15 17 (by kernel_rfl) rfl ?_
   simp only [Array.replicate_succ, Array.replicate_zero, List.push_toArray, List.nil_append, List.cons_append]
   obtain ⟨X0, hXX0⟩ : ∃ X : World, V2.drew = X := ⟨_, rfl⟩
   rw [hXX0] at hS ⊢
   clear hXX0
   have FA1 := Lib.hid (fun w' (hS' : (fun W' => Below V2.heap.size V2 W') w') => And.intro (cz16 (k2.below hS' l2)) (And.intro ((hS'.cell (p := ⟨b, o + A * 3, none⟩) hbV).trans y0) (And.intro ((hS'.cell (p := ⟨b, o + A * 3 + 1, none⟩) hbV).trans y1) (And.intro ((hS'.cell (p := ⟨b, o + A * 3 + 2, none⟩) hbV).trans y2) (And.intro ((hS'.cell (p := ⟨b, o + D * 3, none⟩) hbV).trans y0') (And.intro ((hS'.cell (p := ⟨b, o + D * 3 + 1, none⟩) hbV).trans y1') ((hS'.cell (p := ⟨b, o + D * 3 + 2, none⟩) hbV).trans y2')))))))
   refine tkz 0 rfl hS (fun w' hS' => by go_simp; rfl) ?_
   simp only [nrz]
   refine tkz 1 rfl hS (fun w' hS' => by go_simp; rfl) ?_
   simp only [nrz]
   refine tkz 2 rfl hS (fun w' hS' => by obtain ⟨⟨fm0, fm1, fm2, fm3, fm4, fm5, fm6, fm7, fm8, fm9, fm10, fm11, fm12, fm13, fm14, fm15⟩, fy0, fy1, fy2, fq0, fq1, fq2⟩ := FA1.out w' hS'; clear hS'; go_simp; rfl) ?_
   simp only [nrz]
   refine tkz 3 (v := ?r5v3) rfl hS (fun w' hS' => ?r5y3) ?r5z3
   case r5y3 =>
    go_simp
    try go_ints
    first
    | rfl
    | (rw [if_pos (by omega)]; done)
    | rw [if_pos ⟨by omega, by omega⟩]
   simp only [nrz]
   refine tkz 4 rfl hS (fun w' hS' => by obtain ⟨⟨fm0, fm1, fm2, fm3, fm4, fm5, fm6, fm7, fm8, fm9, fm10, fm11, fm12, fm13, fm14, fm15⟩, fy0, fy1, fy2, fq0, fq1, fq2⟩ := FA1.out w' hS'; clear hS'; go_simp; rfl) ?_
   simp only [nrz]
   refine tkz 5 rfl hS (fun w' hS' => by go_simp; rfl) ?_
   simp only [nrz]
   refine tkz 6 rfl hS (fun w' hS' => by go_simp; rfl) ?_
   simp only [nrz]
   refine tkz 7 rfl hS (fun w' hS' => by obtain ⟨⟨fm0, fm1, fm2, fm3, fm4, fm5, fm6, fm7, fm8, fm9, fm10, fm11, fm12, fm13, fm14, fm15⟩, fy0, fy1, fy2, fq0, fq1, fq2⟩ := FA1.out w' hS'; clear hS'; go_simp; rfl) ?_
   simp only [nrz]
   refine tkz 8 (v := ?r5v8) rfl hS (fun w' hS' => ?r5y8) ?r5z8
   case r5y8 =>
    go_simp
    try go_ints
    first
    | rfl
    | (rw [if_pos (by omega)]; done)
    | rw [if_pos ⟨by omega, by omega⟩]
   simp only [nrz]
   refine tkz 9 rfl hS (fun w' hS' => by obtain ⟨⟨fm0, fm1, fm2, fm3, fm4, fm5, fm6, fm7, fm8, fm9, fm10, fm11, fm12, fm13, fm14, fm15⟩, fy0, fy1, fy2, fq0, fq1, fq2⟩ := FA1.out w' hS'; clear hS'; go_simp; rfl) ?_
   simp only [nrz]
   refine tkz 10 rfl hS (fun w' hS' => by go_simp; rfl) ?_
   simp only [nrz]
   refine tkz 11 rfl hS (fun w' hS' => by obtain ⟨⟨fm0, fm1, fm2, fm3, fm4, fm5, fm6, fm7, fm8, fm9, fm10, fm11, fm12, fm13, fm14, fm15⟩, fy0, fy1, fy2, fq0, fq1, fq2⟩ := FA1.out w' hS'; clear hS'; go_simp; rfl) ?_
   simp only [nrz]
   refine step_op 12 (by kernel_rfl) rfl (fun K hK => ?_)
   rw [if_pos (by rfl)]
   go_simp
   have hc := Zip_any mw mh pa pc l mx hlH nw nh pb pd l' nx hlH' s.how hhow.1 hhow.2 X0 hxl hyl (later_i rA hS) (later_i rD hS)
   unfold RetIm at hc
   rw [hR] at hc
   refine hc.mono ?_
   clear hc
   rintro e X1 ⟨⟨v, rfl, t1, rfl, hrow⟩, hb⟩
   obtain ⟨qa, qc, rfl⟩ := row_slice hrow
   have hrowb := jrow_weaken hrow (show w.heap.size ≤ X0.heap.size by have := hS.size; have := hB.size; omega)
   have hS1 : Below V2.heap.size V2 X1 := hS.trans (hb.mono hS.size)
   clear hb hrow
   refine hK.out _ _ (fun h => hS1) ?_
   clear hK K
   try simp only [Act.put, nrz]
   refine tkz 13 rfl hS1 (fun w' hS' => by go_simp; rfl) ?_
   simp only [nrz]
   refine tkz 14 rfl hS1 (fun w' hS' => by go_simp; rfl) ?_
   simp only [nrz]
   refine step_op 15 (by kernel_rfl) rfl (fun K hK => ?_)
   have kz := k4.below hS1 l4
   obtain ⟨z0, z1, z2⟩ := cz3 kz
   have fz0 := kz.frozen 0
   have fz1 := kz.frozen 1
   have fz2 := kz.frozen 2
   rw [if_pos (by rfl)]
   go_simp
   refine hK.out _ _ (fun h => absurd h (by omega)) ?_
   clear hK K
   try simp only [Act.put, nrz]
   refine step_op 16 (by kernel_rfl) rfl (fun K hK => ?_)
   rw [if_pos (by rfl)]
   go_simp
   refine hK.out _ _ (fun h => absurd h (by omega)) ?_
   clear hK K
   try simp only [Act.put, nrz]
   refine done_ops (by kernel_rfl) ?_
   have kf := put3_blk kz (.int .i64 R.w) (.int .i64 R.h) (.slice qa R.px.length qc)
   have rowf := row_put3b hrowb (kz.not_row (by decide) hrowb) (.int .i64 R.w) (.int .i64 R.h) (.slice qa R.px.length qc)
   have hbf : Below w.heap.size w (put3 X1 (V1.heap.size) (.int .i64 R.w) (.int .i64 R.h) (.slice qa R.px.length qc)) := (hB.trans (hS1.mono hB.size)).trans (put3_below hle4 _ _ _)
   obtain ⟨g0, g1, g2⟩ := cz3 kf
   go_wp2_with fail
   exact bodyPost_ret (v := .tuple #[imv R.w R.h qa R.px.length qc, .int .i64 R.err]) (by simp [results, Tryz.results79, go_sem, g0, g1, g2]) rfl ⟨⟨_, rfl, _, rfl, rowf⟩, hbf⟩
  case neg =>
   have f2 : (s.op == 2) = false := by simp [h2]
   rw [if_neg h2] at hR
   clear h2
   by_cases h3 : s.op = 3
   case pos =>
    have f3 : (s.op == 3) = true := by simp [h3]
    rw [if_pos h3] at hR
    clear h3
    go_enter Tryz.func79, Tryz.ntmps79
    have hS : Below V2.heap.size V2 V2.drew := (Below.refl _ _).drew
    go_wp2_with fail
    refine plain_region (fun W' => Below V2.heap.size V2 W') 12 14 (by kernel_rfl) rfl ?_
    simp only [Array.replicate_succ, Array.replicate_zero, List.push_toArray, List.nil_append, List.cons_append]
    obtain ⟨X0, hXX0⟩ : ∃ X : World, V2.drew = X := ⟨_, rfl⟩
    rw [hXX0] at hS ⊢
    clear hXX0
    have FA2 := Lib.hid (fun w' (hS' : (fun W' => Below V2.heap.size V2 W') w') => And.intro (cz16 (k2.below hS' l2)) (And.intro ((hS'.cell (p := ⟨b, o + A * 3, none⟩) hbV).trans y0) (And.intro ((hS'.cell (p := ⟨b, o + A * 3 + 1, none⟩) hbV).trans y1) ((hS'.cell (p := ⟨b, o + A * 3 + 2, none⟩) hbV).trans y2))))
    refine tkz 0 rfl hS (fun w' hS' => by go_simp; rfl) ?_
    simp only [nrz]
    refine tkz 1 rfl hS (fun w' hS' => by go_simp; rfl) ?_
    simp only [nrz]
    refine tkz 2 rfl hS (fun w' hS' => by obtain ⟨⟨fm0, fm1, fm2, fm3, fm4, fm5, fm6, fm7, fm8, fm9, fm10, fm11, fm12, fm13, fm14, fm15⟩, fy0, fy1, fy2⟩ := FA2.out w' hS'; clear hS'; go_simp; rfl) ?_
    simp only [nrz]
    refine tkz 3 (v := ?r7v3) rfl hS (fun w' hS' => ?r7y3) ?r7z3
    case r7y3 =>
     go_simp
     try go_ints
     first
     | rfl
     | (rw [if_pos (by omega)]; done)
     | rw [if_pos ⟨by omega, by omega⟩]
    simp only [nrz]
    refine tkz 4 rfl hS (fun w' hS' => by obtain ⟨⟨fm0, fm1, fm2, fm3, fm4, fm5, fm6, fm7, fm8, fm9, fm10, fm11, fm12, fm13, fm14, fm15⟩, fy0, fy1, fy2⟩ := FA2.out w' hS'; clear hS'; go_simp; rfl) ?_
    simp only [nrz]
    refine tkz 5 rfl hS (fun w' hS' => by go_simp; rfl) ?_
    simp only [nrz]
    refine tkz 6 rfl hS (fun w' hS' => by obtain ⟨⟨fm0, fm1, fm2, fm3, fm4, fm5, fm6, fm7, fm8, fm9, fm10, fm11, fm12, fm13, fm14, fm15⟩, fy0, fy1, fy2⟩ := FA2.out w' hS'; clear hS'; go_simp; rfl) ?_
    simp only [nrz]
    refine tkz 7 rfl hS (fun w' hS' => by go_simp; rfl) ?_
    simp only [nrz]
    refine tkz 8 rfl hS (fun w' hS' => by obtain ⟨⟨fm0, fm1, fm2, fm3, fm4, fm5, fm6, fm7, fm8, fm9, fm10, fm11, fm12, fm13, fm14, fm15⟩, fy0, fy1, fy2⟩ := FA2.out w' hS'; clear hS'; go_simp; rfl) ?_
    simp only [nrz]
    refine step_op 9 (by kernel_rfl) rfl (fun K hK => ?_)
    rw [if_pos (by rfl)]
    go_simp
    have hc := Convolve_any mw mh pa pc l mx hlH s.kw s.kh ka kc tl s.taps htlH s.bd hbdr.1 hbdr.2 X0 hxl (later_i rA hS) htl (later_i ht hS)
    unfold RetIm at hc
    rw [hR] at hc
    refine hc.mono ?_
    clear hc
    rintro e X1 ⟨⟨v, rfl, t1, rfl, hrow⟩, hb⟩
    obtain ⟨qa, qc, rfl⟩ := row_slice hrow
    have hrowb := jrow_weaken hrow (show w.heap.size ≤ X0.heap.size by have := hS.size; have := hB.size; omega)
    have hS1 : Below V2.heap.size V2 X1 := hS.trans (hb.mono hS.size)
    clear hb hrow
    refine hK.out _ _ (fun h => hS1) ?_
    clear hK K
    try simp only [Act.put, nrz]
    refine tkz 10 rfl hS1 (fun w' hS' => by go_simp; rfl) ?_
    simp only [nrz]
    refine tkz 11 rfl hS1 (fun w' hS' => by go_simp; rfl) ?_
    simp only [nrz]
    refine step_op 12 (by kernel_rfl) rfl (fun K hK => ?_)
    have kz := k4.below hS1 l4
    obtain ⟨z0, z1, z2⟩ := cz3 kz
    have fz0 := kz.frozen 0
    have fz1 := kz.frozen 1
    have fz2 := kz.frozen 2
    rw [if_pos (by rfl)]
    go_simp
    refine hK.out _ _ (fun h => absurd h (by omega)) ?_
    clear hK K
    try simp only [Act.put, nrz]
    refine step_op 13 (by kernel_rfl) rfl (fun K hK => ?_)
    rw [if_pos (by rfl)]
    go_simp
    refine hK.out _ _ (fun h => absurd h (by omega)) ?_
    clear hK K
    try simp only [Act.put, nrz]
    refine done_ops (by kernel_rfl) ?_
    have kf := put3_blk kz (.int .i64 R.w) (.int .i64 R.h) (.slice qa R.px.length qc)
    have rowf := row_put3b hrowb (kz.not_row (by decide) hrowb) (.int .i64 R.w) (.int .i64 R.h) (.slice qa R.px.length qc)
    have hbf : Below w.heap.size w (put3 X1 (V1.heap.size) (.int .i64 R.w) (.int .i64 R.h) (.slice qa R.px.length qc)) := (hB.trans (hS1.mono hB.size)).trans (put3_below hle4 _ _ _)
    obtain ⟨g0, g1, g2⟩ := cz3 kf
    go_wp2_with fail
    exact bodyPost_ret (v := .tuple #[imv R.w R.h qa R.px.length qc, .int .i64 R.err]) (by simp [results, Tryz.results79, go_sem, g0, g1, g2]) rfl ⟨⟨_, rfl, _, rfl, rowf⟩, hbf⟩
   case neg =>
    have f3 : (s.op == 3) = false := by simp [h3]
    rw [if_neg h3] at hR
    clear h3
    by_cases h4 : s.op = 4
    case pos =>
     have f4 : (s.op == 4) = true := by simp [h4]
     rw [if_pos h4] at hR
     clear h4
     go_enter Tryz.func79, Tryz.ntmps79
     have hS : Below V2.heap.size V2 V2.drew := (Below.refl _ _).drew
     go_wp2_with fail
     refine plain_region (fun W' => Below V2.heap.size V2 W') 10 12 (by kernel_rfl) rfl ?_
     simp only [Array.replicate_succ, Array.replicate_zero, List.push_toArray, List.nil_append, List.cons_append]
     obtain ⟨X0, hXX0⟩ : ∃ X : World, V2.drew = X := ⟨_, rfl⟩
     rw [hXX0] at hS ⊢
     clear hXX0
     have FA3 := Lib.hid (fun w' (hS' : (fun W' => Below V2.heap.size V2 W') w') => And.intro (cz16 (k2.below hS' l2)) (And.intro ((hS'.cell (p := ⟨b, o + A * 3, none⟩) hbV).trans y0) (And.intro ((hS'.cell (p := ⟨b, o + A * 3 + 1, none⟩) hbV).trans y1) ((hS'.cell (p := ⟨b, o + A * 3 + 2, none⟩) hbV).trans y2))))
     refine tkz 0 rfl hS (fun w' hS' => by go_simp; rfl) ?_
     simp only [nrz]
     refine tkz 1 rfl hS (fun w' hS' => by go_simp; rfl) ?_
     simp only [nrz]
     refine tkz 2 rfl hS (fun w' hS' => by obtain ⟨⟨fm0, fm1, fm2, fm3, fm4, fm5, fm6, fm7, fm8, fm9, fm10, fm11, fm12, fm13, fm14, fm15⟩, fy0, fy1, fy2⟩ := FA3.out w' hS'; clear hS'; go_simp; rfl) ?_
     simp only [nrz]
     refine tkz 3 (v := ?r9v3) rfl hS (fun w' hS' => ?r9y3) ?r9z3
     case r9y3 =>
      go_simp
      try go_ints
      first
      | rfl
      | (rw [if_pos (by omega)]; done)
      | rw [if_pos ⟨by omega, by omega⟩]
     simp only [nrz]
     refine tkz 4 rfl hS (fun w' hS' => by obtain ⟨⟨fm0, fm1, fm2, fm3, fm4, fm5, fm6, fm7, fm8, fm9, fm10, fm11, fm12, fm13, fm14, fm15⟩, fy0, fy1, fy2⟩ := FA3.out w' hS'; clear hS'; go_simp; rfl) ?_
     simp only [nrz]
     refine tkz 5 rfl hS (fun w' hS' => by go_simp; rfl) ?_
     simp only [nrz]
     refine tkz 6 rfl hS (fun w' hS' => by obtain ⟨⟨fm0, fm1, fm2, fm3, fm4, fm5, fm6, fm7, fm8, fm9, fm10, fm11, fm12, fm13, fm14, fm15⟩, fy0, fy1, fy2⟩ := FA3.out w' hS'; clear hS'; go_simp; rfl) ?_
     simp only [nrz]
     refine step_op 7 (by kernel_rfl) rfl (fun K hK => ?_)
     rw [if_pos (by rfl)]
     go_simp
     have hc := Dilate_any mw mh pa pc l mx hlH s.sw s.sh sa sc bl s.bits hblH X0 hxl (later_i rA hS) hbl ((hbt.below (Nat.le_refl _) hS).mono hS.size)
     unfold RetIm at hc
     rw [hR] at hc
     refine hc.mono ?_
     clear hc
     rintro e X1 ⟨⟨v, rfl, t1, rfl, hrow⟩, hb⟩
     obtain ⟨qa, qc, rfl⟩ := row_slice hrow
     have hrowb := jrow_weaken hrow (show w.heap.size ≤ X0.heap.size by have := hS.size; have := hB.size; omega)
     have hS1 : Below V2.heap.size V2 X1 := hS.trans (hb.mono hS.size)
     clear hb hrow
     refine hK.out _ _ (fun h => hS1) ?_
     clear hK K
     try simp only [Act.put, nrz]
     refine tkz 8 rfl hS1 (fun w' hS' => by go_simp; rfl) ?_
     simp only [nrz]
     refine tkz 9 rfl hS1 (fun w' hS' => by go_simp; rfl) ?_
     simp only [nrz]
     refine step_op 10 (by kernel_rfl) rfl (fun K hK => ?_)
     have kz := k4.below hS1 l4
     obtain ⟨z0, z1, z2⟩ := cz3 kz
     have fz0 := kz.frozen 0
     have fz1 := kz.frozen 1
     have fz2 := kz.frozen 2
     rw [if_pos (by rfl)]
     go_simp
     refine hK.out _ _ (fun h => absurd h (by omega)) ?_
     clear hK K
     try simp only [Act.put, nrz]
     refine step_op 11 (by kernel_rfl) rfl (fun K hK => ?_)
     rw [if_pos (by rfl)]
     go_simp
     refine hK.out _ _ (fun h => absurd h (by omega)) ?_
     clear hK K
     try simp only [Act.put, nrz]
     refine done_ops (by kernel_rfl) ?_
     have kf := put3_blk kz (.int .i64 R.w) (.int .i64 R.h) (.slice qa R.px.length qc)
     have rowf := row_put3b hrowb (kz.not_row (by decide) hrowb) (.int .i64 R.w) (.int .i64 R.h) (.slice qa R.px.length qc)
     have hbf : Below w.heap.size w (put3 X1 (V1.heap.size) (.int .i64 R.w) (.int .i64 R.h) (.slice qa R.px.length qc)) := (hB.trans (hS1.mono hB.size)).trans (put3_below hle4 _ _ _)
     obtain ⟨g0, g1, g2⟩ := cz3 kf
     go_wp2_with fail
     exact bodyPost_ret (v := .tuple #[imv R.w R.h qa R.px.length qc, .int .i64 R.err]) (by simp [results, Tryz.results79, go_sem, g0, g1, g2]) rfl ⟨⟨_, rfl, _, rfl, rowf⟩, hbf⟩
    case neg =>
     have f4 : (s.op == 4) = false := by simp [h4]
     rw [if_neg h4] at hR
     clear h4
     by_cases h5 : s.op = 5
     case pos =>
      have f5 : (s.op == 5) = true := by simp [h5]
      rw [if_pos h5] at hR
      clear h5
      go_enter Tryz.func79, Tryz.ntmps79
      have hS : Below V2.heap.size V2 V2.drew := (Below.refl _ _).drew
      go_wp2_with fail
      refine plain_region (fun W' => Below V2.heap.size V2 W') 10 12 (by kernel_rfl) rfl ?_
      simp only [Array.replicate_succ, Array.replicate_zero, List.push_toArray, List.nil_append, List.cons_append]
      obtain ⟨X0, hXX0⟩ : ∃ X : World, V2.drew = X := ⟨_, rfl⟩
      rw [hXX0] at hS ⊢
      clear hXX0
      have FA4 := Lib.hid (fun w' (hS' : (fun W' => Below V2.heap.size V2 W') w') => And.intro (cz16 (k2.below hS' l2)) (And.intro ((hS'.cell (p := ⟨b, o + A * 3, none⟩) hbV).trans y0) (And.intro ((hS'.cell (p := ⟨b, o + A * 3 + 1, none⟩) hbV).trans y1) ((hS'.cell (p := ⟨b, o + A * 3 + 2, none⟩) hbV).trans y2))))
      refine tkz 0 rfl hS (fun w' hS' => by go_simp; rfl) ?_
      simp only [nrz]
      refine tkz 1 rfl hS (fun w' hS' => by go_simp; rfl) ?_
      simp only [nrz]
      refine tkz 2 rfl hS (fun w' hS' => by obtain ⟨⟨fm0, fm1, fm2, fm3, fm4, fm5, fm6, fm7, fm8, fm9, fm10, fm11, fm12, fm13, fm14, fm15⟩, fy0, fy1, fy2⟩ := FA4.out w' hS'; clear hS'; go_simp; rfl) ?_
      simp only [nrz]
      refine tkz 3 (v := ?r11v3) rfl hS (fun w' hS' => ?r11y3) ?r11z3
      case r11y3 =>
       go_simp
       try go_ints
       first
       | rfl
       | (rw [if_pos (by omega)]; done)
       | rw [if_pos ⟨by omega, by omega⟩]
      simp only [nrz]
      refine tkz 4 rfl hS (fun w' hS' => by obtain ⟨⟨fm0, fm1, fm2, fm3, fm4, fm5, fm6, fm7, fm8, fm9, fm10, fm11, fm12, fm13, fm14, fm15⟩, fy0, fy1, fy2⟩ := FA4.out w' hS'; clear hS'; go_simp; rfl) ?_
      simp only [nrz]
      refine tkz 5 rfl hS (fun w' hS' => by go_simp; rfl) ?_
      simp only [nrz]
      refine tkz 6 rfl hS (fun w' hS' => by obtain ⟨⟨fm0, fm1, fm2, fm3, fm4, fm5, fm6, fm7, fm8, fm9, fm10, fm11, fm12, fm13, fm14, fm15⟩, fy0, fy1, fy2⟩ := FA4.out w' hS'; clear hS'; go_simp; rfl) ?_
      simp only [nrz]
      refine step_op 7 (by kernel_rfl) rfl (fun K hK => ?_)
      rw [if_pos (by rfl)]
      go_simp
      have hc := Erode_any mw mh pa pc l mx hlH s.sw s.sh sa sc bl s.bits hblH X0 hxl (later_i rA hS) hbl ((hbt.below (Nat.le_refl _) hS).mono hS.size)
      unfold RetIm at hc
      rw [hR] at hc
      refine hc.mono ?_
      clear hc
      rintro e X1 ⟨⟨v, rfl, t1, rfl, hrow⟩, hb⟩
      obtain ⟨qa, qc, rfl⟩ := row_slice hrow
      have hrowb := jrow_weaken hrow (show w.heap.size ≤ X0.heap.size by have := hS.size; have := hB.size; omega)
      have hS1 : Below V2.heap.size V2 X1 := hS.trans (hb.mono hS.size)
      clear hb hrow
      refine hK.out _ _ (fun h => hS1) ?_
      clear hK K
      try simp only [Act.put, nrz]
      refine tkz 8 rfl hS1 (fun w' hS' => by go_simp; rfl) ?_
      simp only [nrz]
      refine tkz 9 rfl hS1 (fun w' hS' => by go_simp; rfl) ?_
      simp only [nrz]
      refine step_op 10 (by kernel_rfl) rfl (fun K hK => ?_)
      have kz := k4.below hS1 l4
      obtain ⟨z0, z1, z2⟩ := cz3 kz
      have fz0 := kz.frozen 0
      have fz1 := kz.frozen 1
      have fz2 := kz.frozen 2
      rw [if_pos (by rfl)]
      go_simp
      refine hK.out _ _ (fun h => absurd h (by omega)) ?_
      clear hK K
      try simp only [Act.put, nrz]
      refine step_op 11 (by kernel_rfl) rfl (fun K hK => ?_)
      rw [if_pos (by rfl)]
      go_simp
      refine hK.out _ _ (fun h => absurd h (by omega)) ?_
      clear hK K
      try simp only [Act.put, nrz]
      refine done_ops (by kernel_rfl) ?_
      have kf := put3_blk kz (.int .i64 R.w) (.int .i64 R.h) (.slice qa R.px.length qc)
      have rowf := row_put3b hrowb (kz.not_row (by decide) hrowb) (.int .i64 R.w) (.int .i64 R.h) (.slice qa R.px.length qc)
      have hbf : Below w.heap.size w (put3 X1 (V1.heap.size) (.int .i64 R.w) (.int .i64 R.h) (.slice qa R.px.length qc)) := (hB.trans (hS1.mono hB.size)).trans (put3_below hle4 _ _ _)
      obtain ⟨g0, g1, g2⟩ := cz3 kf
      go_wp2_with fail
      exact bodyPost_ret (v := .tuple #[imv R.w R.h qa R.px.length qc, .int .i64 R.err]) (by simp [results, Tryz.results79, go_sem, g0, g1, g2]) rfl ⟨⟨_, rfl, _, rfl, rowf⟩, hbf⟩
     case neg =>
      have f5 : (s.op == 5) = false := by simp [h5]
      rw [if_neg h5] at hR
      clear h5
      subst hR
      have q0 := k4.frozen 0
      have kf := put3_blk k4 (.int .i64 0) (.int .i64 0) (.slice none 0 0)
      have hbf : Below w.heap.size w (put3 V2 (V1.heap.size) (.int .i64 0) (.int .i64 0) (.slice none 0 0)) := hB.trans (put3_below hle4 _ _ _)
      obtain ⟨g0, g1, g2⟩ := cz3 kf
      go_enter Tryz.func79, Tryz.ntmps79
      go_wp2_with fail
      exact bodyPost_ret (v := .tuple #[imv 0 0 none 0 0, .int .i64 30]) (by simp [results, Tryz.results79, go_sem, g0, g1, g2]) rfl ⟨⟨_, rfl, _, rfl, World.ownsRow_nil _ _ _ _⟩, hbf⟩
end Go.Proofs.YtekiemlniegddaaGreat
namespace Go.Proofs.YtekiemlniegddaaGreat
open Go Go.RowKit Go.Shelf
/-! ### append of what can be read, nil or not -/
theorem run_append_none0 {P : Program} {w : World} (base : Nat) (t ty e : TypeId) (i : TypeInfo) (size : Nat) (ht : P.underlying t = some (.slice e)) (hi : P.info? e = some i)
  (v : Value) (n : Nat) (xs : List Value) (hown : w.ownsRow base e size v n xs) (c : Nat) : (Builtin.append_ #[t, t] ty #[v, .slice none 0 c]).run P w = .ok v w := by
 rcases hown.2 with ⟨rfl, rfl⟩ | ⟨g, cap, cur, rfl, _, _, hnc, _⟩
 ·simp [Builtin.append_, run_underlying ht, sizeOf, typeInfo, hi, Builtin.lenOf, Builtin.firstCells]
 ·simp [Builtin.append_, run_underlying ht, sizeOf, typeInfo, hi, Builtin.lenOf, Builtin.firstCells, hnc, storeCells]
theorem grownBy_self (w : World) (row : Option Nat) : w.grownBy w row := ⟨rfl, rfl, rfl, Nat.le_refl _, fun _ _ _ => rfl⟩
/-- What stands at an address that may be none. -/
def NewsAt (W : World) (a : Option Addr) (m : Nat) (news : List Value) : Prop := (a = none ∧ m = 0) ∨ ∃ ad, a = some ad ∧ ∀ j u, news[j]? = some u → W.cell? (ad.add j) = some u
theorem addr_add (b o j : Nat) : (⟨b, o, none⟩ : Addr).add j = ⟨b, o + j, none⟩ := by unfold Addr.add; split <;> simp_all
theorem Rd.news {B : Nat} {W : World} {a : Option Addr} {xs : List Int} {m : Nat} (h : Rd B W a xs) (hm : xs.length = m) : NewsAt W a m (xs.map (Value.int .i64)) := by
 subst hm
 cases a with
 | none =>
  rcases h with h | ⟨b, o, h1, _⟩
  ·subst h; exact .inl ⟨rfl, rfl⟩
  ·cases h1
 | some ad =>
  refine .inr ⟨ad, rfl, fun j u hu => ?_⟩
  rcases h with h | ⟨b, o, h1, h2, h3⟩
  ·subst h; simp at hu
  ·simp only [Option.some.injEq] at h1
   subst h1
   have hj : j < xs.length := by
    rcases Nat.lt_or_ge j xs.length with h | h
    ·exact h
    ·rw [List.getElem?_eq_none (by simpa using h)] at hu; cases hu
   rw [addr_add, h3 j hj]
   simp [hj] at hu ⊢
   exact hu
theorem vint_one (xs : List Int) : ∀ u ∈ xs.map (Value.int .i64), u.oneCell' = true := fun u hu => by
 obtain ⟨x, _, rfl⟩ := List.mem_map.1 hu
 rfl
theorem NewsAt.below {W W' : World} {B : Nat} {a : Option Addr} {m : Nat} {news : List Value} (h : NewsAt W a m news) (hb : Below B W W') (ha : ∀ ad, a = some ad → ad.block < B) : NewsAt W' a m news := by
 rcases h with h | ⟨ad, rfl, h2⟩
 ·exact .inl h
 ·exact .inr ⟨ad, rfl, fun j u hu => by
   rw [hb.cell (by have := ha ad rfl; unfold Addr.add; split <;> exact this)]
   exact h2 j u hu⟩
end Go.Proofs.YtekiemlniegddaaGreat
namespace Go.Proofs.YtekiemlniegddaaGreat
open Go Go.RowKit Go.Shelf
/-- A picture in memory. -/
structure PicA where
 p : PicN
 a : Option Addr
 c : Nat
def picCells (x : PicA) : List Value := [.int .i64 x.p.w, .int .i64 x.p.h, .slice x.a x.p.px.length x.c]
def flatC : List PicA → List Value
 | [] => []
 | x :: l => picCells x ++ flatC l
theorem flatC_append : ∀ l k : List PicA, flatC (l ++ k) = flatC l ++ flatC k
 | [], k => rfl
 | x :: l, k => by show picCells x ++ flatC (l ++ k) = picCells x ++ flatC l ++ flatC k; rw [flatC_append l k, List.append_assoc]
theorem flatC_length : ∀ l : List PicA, (flatC l).length = l.length * 3
 | [] => rfl
 | x :: l => by show (picCells x ++ flatC l).length = _; rw [List.length_append, flatC_length l, List.length_cons]; show 3 + _ = _; omega
theorem flatC_one : ∀ (l : List PicA), ∀ u ∈ flatC l, u.oneCell' = true
 | [], u, h => by cases h
 | x :: l, u, h => by
  rcases List.mem_append.1 (show u ∈ picCells x ++ flatC l from h) with h | h
  ·simp only [picCells, List.mem_cons, List.not_mem_nil, or_false] at h
   rcases h with rfl | rfl | rfl <;> rfl
  ·exact flatC_one l u h
theorem flatC_at : ∀ (l : List PicA) (i : Nat) (x : PicA), l[i]? = some x → ∀ j, j < 3 → (flatC l)[i * 3 + j]? = (picCells x)[j]?
 | [], i, x, h, j, hj => by simp at h
 | y :: l, 0, x, h, j, hj => by
  simp only [List.getElem?_cons_zero, Option.some.injEq] at h
  subst h
  show (picCells y ++ flatC l)[0 * 3 + j]? = _
  rw [List.getElem?_append_left (by show 0 * 3 + j < 3; omega)]
  simp
 | y :: l, i + 1, x, h, j, hj => by
  simp only [List.getElem?_cons_succ] at h
  show (picCells y ++ flatC l)[(i + 1) * 3 + j]? = _
  rw [List.getElem?_append_right (by show 3 ≤ (i + 1) * 3 + j; omega)]
  rw [show (i + 1) * 3 + j - (picCells y).length = i * 3 + j by show (i + 1) * 3 + j - 3 = _; omega]
  exact flatC_at l i x h j hj
/-- The slice at 'a' reads as 'xs', outside of the block 'K'. -/
def RdX (K : Option Nat) (W : World) (a : Option Addr) (c : Nat) (xs : List Int) : Prop := Rd W.heap.size W a xs ∧ (a = none → c = 0) ∧ (xs = [] ∨ ∀ ad, a = some ad → K ≠ some ad.block)
/-- The call's own list of images. -/
def OwnPs (B : Nat) (W : World) (v : Value) (ms : List PicN) : Prop :=
 ∃ l : List PicA, l.map PicA.p = ms ∧ W.ownsRow B 32 3 v l.length (flatC l) ∧ ∀ x ∈ l, RdX v.ownBlock W x.a x.c x.p.px
theorem Rd.rowed {W W' : World} {K : Option Nat} {a : Option Addr} {xs : List Int} (h : Rd W.heap.size W a xs) (hx : xs = [] ∨ ∀ ad, a = some ad → K ≠ some ad.block) (hg : W.grownBy W' K) : Rd W'.heap.size W' a xs := by
 rcases h with h | ⟨b, o, h1, h2, h3⟩
 ·exact .inl h
 ·rcases hx with hx | hx
  ·exact .inl hx
  ·refine .inr ⟨b, o, h1, Nat.lt_of_lt_of_le h2 hg.size, fun i hi => ?_⟩
   rw [World.cell?_of_block (w := W) (hg.block b h2 (fun e => hx _ h1 e.symm))]
   exact h3 i hi
theorem OwnPs.slice {B : Nat} {W : World} {v : Value} {ms : List PicN} (h : OwnPs B W v ms) : ∃ a c, v = .slice a ms.length c ∧ RdPs W.heap.size W a ms := by
 obtain ⟨l, rfl, h2, h3⟩ := h
 obtain ⟨a, c, rfl⟩ := row_slice h2
 refine ⟨a, c, by rw [List.length_map], ?_⟩
 rcases Nat.eq_zero_or_pos l.length with h0 | h0
 ·left; rw [List.eq_nil_of_length_eq_zero h0]; rfl
 right
 rcases h2.2 with ⟨_, he⟩ | ⟨g, cap, cur, he, _⟩
 ·omega
 simp only [Value.slice.injEq] at he
 obtain ⟨rfl, _, rfl⟩ := he
 refine ⟨g, 0, rfl, (h2.lt g rfl).2, fun i hi => ?_⟩
 rw [List.length_map] at hi
 have hx := List.getElem?_eq_getElem hi
 obtain ⟨x, hxe⟩ : ∃ x, l[i] = x := ⟨_, rfl⟩
 rw [hxe] at hx
 have hm : x ∈ l := hxe ▸ List.getElem_mem hi
 have hp : picAt (l.map PicA.p) i = x.p := by unfold picAt; rw [List.getElem?_map, hx]; rfl
 rw [hp]
 have hc := fun j (hj : j < 3) => (h2.cellAt (i * 3 + j) (by omega)).trans (flatC_at l i x hx j hj)
 refine ⟨x.a, x.c, ?_, ?_, ?_, (h3 x hm).1, (h3 x hm).2.1⟩
 ·rw [show 0 + i * 3 = i * 3 + 0 by omega, hc 0 (by omega)]; rfl
 ·rw [show 0 + i * 3 + 1 = i * 3 + 1 by omega, hc 1 (by omega)]; rfl
 ·rw [show 0 + i * 3 + 2 = i * 3 + 2 by omega, hc 2 (by omega)]; rfl
/-- What can be read has its pictures in memory. -/
theorem RdPs.pics {B : Nat} {W : World} {a : Option Addr} {ms : List PicN} (h : RdPs B W a ms) :
  ∃ l : List PicA, l.map PicA.p = ms ∧ (ms = [] ∨ ∃ b o, a = some ⟨b, o, none⟩ ∧ b < B ∧ ∀ j u, (flatC l)[j]? = some u → W.cell? ⟨b, o + j, none⟩ = some u) ∧ ∀ x ∈ l, Rd B W x.a x.p.px ∧ (x.a = none → x.c = 0) := by
 rcases h with h | ⟨b, o, h1, h2, h3⟩
 ·subst h; exact ⟨[], rfl, .inl rfl, fun x hx => by cases hx⟩
 ·suffices hk : ∀ k, k ≤ ms.length → ∃ l : List PicA, l.map PicA.p = ms.take k ∧ (∀ j u, (flatC l)[j]? = some u → W.cell? ⟨b, o + j, none⟩ = some u) ∧ ∀ x ∈ l, Rd B W x.a x.p.px ∧ (x.a = none → x.c = 0) by
   obtain ⟨l, e1, e2, e3⟩ := hk ms.length (Nat.le_refl _)
   rw [List.take_length] at e1
   exact ⟨l, e1, .inr ⟨b, o, h1, h2, e2⟩, e3⟩
  intro k
  induction k with
  | zero => exact fun _ => ⟨[], rfl, fun j u hu => by simp [flatC] at hu, fun x hx => by cases hx⟩
  | succ k ih =>
   intro hk
   obtain ⟨l, e1, e2, e3⟩ := ih (by omega)
   obtain ⟨pa, pc, f1, f2, f3, f4, f5⟩ := h3 k (by omega)
   have hl : l.length = k := by have := congrArg List.length e1; rw [List.length_map, List.length_take] at this; omega
   refine ⟨l ++ [⟨picAt ms k, pa, pc⟩], ?_, fun j u hu => ?_, fun x hx => ?_⟩
   ·rw [List.map_append, e1, List.take_succ_eq_append_getElem (by omega : k < ms.length)]
    congr 1
    show [picAt ms k] = _
    unfold picAt; rw [List.getElem?_eq_getElem (by omega)]; rfl
   ·rw [flatC_append] at hu
    rcases Nat.lt_or_ge j (flatC l).length with hj | hj
    ·rw [List.getElem?_append_left hj] at hu; exact e2 j u hu
    ·rw [List.getElem?_append_right hj] at hu
     rw [flatC_length, hl] at hj hu
     obtain ⟨t, rfl⟩ : ∃ t, j = k * 3 + t := ⟨j - k * 3, by omega⟩
     rw [show k * 3 + t - k * 3 = t by omega] at hu
     show W.cell? ⟨b, o + (k * 3 + t), none⟩ = some u
     rw [← Nat.add_assoc]
     match t, hu with
     | 0, hu => simp [flatC, picCells] at hu; rw [← hu]; exact f1
     | 1, hu => simp [flatC, picCells] at hu; rw [← hu]; exact f2
     | 2, hu => simp [flatC, picCells] at hu; rw [← hu]; exact f3
     | t + 3, hu => simp [flatC, picCells] at hu
   ·rcases List.mem_append.1 hx with hx | hx
    ·exact e3 x hx
    ·rw [List.mem_singleton.1 hx]; exact ⟨f4, f5⟩
end Go.Proofs.YtekiemlniegddaaGreat
namespace Go.Proofs.YtekiemlniegddaaGreat
open Go Go.RowKit Go.Shelf
theorem pwithin (n lo hi : Int) (v : Bool) (hv : inR n lo hi = v) (w : World) :
  Calls Tryz.prog 70 #[.int .i64 n, .int .i64 lo, .int .i64 hi] w fun e w' => e = .returned (.bool v) ∧ w = w' := by
 subst hv
 unfold inR
 cases h1 : decide (lo ≤ n) <;> cases h2 : decide (n ≤ hi)
 all_goals
  simp only [decide_eq_true_eq, decide_eq_false_iff_not] at h1 h2
  go_enter Tryz.func70, Tryz.ntmps70
  go_wp2
  go_ret
  exact ⟨ret_bool (by simp; try omega), rfl⟩
/-- The value of a pipe. -/
abbrev pipev (P : PipeN) (a : Option Addr) (n c : Nat) : Value := .agg #[.int .i64 P.w, .int .i64 P.h, .int .i64 P.inp, .slice a n c]
/-- What a pipe's numbers are, as they came in. -/
structure PipeIn (P : PipeN) : Prop where
 n : P.ss.length ≤ 9223372036854775807
 st : ∀ i, i < P.ss.length → StepIn (stAt P.ss i)
theorem sizeB_is (W H I : Int) (ss : List StepN) (n : Nat) (hn : ss.length = n) : sizeB ⟨W, H, I, ss⟩ = ((inR W 1 16 && inR H 1 16) && (inR I 1 3 && inR (n : Int) 1 12)) := by
 subst hn
 unfold sizeB inR
 simp only
 congr 3
 ·simp; omega
 ·simp; omega
theorem stepsB_at {I : Int} {ss : List StepN} : ∀ {m k : Nat}, stepsB I ss m = true → k < m → (needB (stAt ss k) && refB I k (stAt ss k)) = true
 | m + 1, k, h, hk => by
  rw [stepsB, Bool.and_eq_true] at h
  by_cases e : k = m
  ·subst e; exact h.2
  ·exact stepsB_at h.1 (by omega)
theorem pipeB_no {P : PipeN} {k : Nat} (hk : k < P.ss.length) (h : (needB (stAt P.ss k) && refB P.inp k (stAt P.ss k)) = false) : pipeB P = false := by
 cases hb : pipeB P with
 | false => rfl
 | true =>
  unfold pipeB at hb
  rw [Bool.and_eq_true] at hb
  have := stepsB_at hb.2 hk
  rw [h] at this; cases this
theorem pipeB_size {P : PipeN} (h : sizeB P = false) : pipeB P = false := by unfold pipeB; rw [h]; rfl
theorem refB_ops (I : Int) (i : Nat) (s : StepN) : refB I i s = (opsN s).all (fun x => inR x 0 (I + i - 1)) := by
 unfold refB opsN
 by_cases h2 : s.op = 2
 ·by_cases hab : s.a = s.b
  ·rw [if_neg (fun h => h.2 hab), hab]; simp [h2]
  ·rw [if_pos ⟨h2, hab⟩]; simp [h2]
 ·rw [if_neg (fun h => h2 h.1)]; simp [h2]
theorem opsN_len (s : StepN) : 1 ≤ (opsN s).length ∧ (opsN s).length ≤ 2 := by unfold opsN; split <;> simp
theorem all_take {L : List Int} {p : Int → Bool} {j : Nat} (h : ∀ t, t < L.length → p (L[t]?.getD 0) = true) : L.all p = true := by
 rw [List.all_eq_true]
 intro x hx
 obtain ⟨t, ht, rfl⟩ := List.getElem_of_mem hx
 have := h t ht
 rwa [List.getElem?_eq_getElem ht] at this
theorem all_not {L : List Int} {p : Int → Bool} {t : Nat} (ht : t < L.length) (h : p (L[t]?.getD 0) = false) : L.all p = false := by
 rw [List.getElem?_eq_getElem ht] at h
 rw [List.all_eq_false]
 exact ⟨L[t], List.getElem_mem ht, by simpa using h⟩
set_option maxRecDepth 100000 in
set_option maxHeartbeats 8000000 in
theorem PCheck_any (P : PipeN) (a : Option Addr) (n c : Nat) (hn : P.ss.length = n) (hP : PipeIn P) (v : Bool) (hv : pipeB P = v) (w : World) (hr : RdSs w.heap.size w a P.ss) :
  Calls Tryz.prog 41 #[pipev P a n c] w fun e w' => e = .returned (.int .i64 (if v = true then 0 else 30)) ∧ Below w.heap.size w w' := by
 obtain ⟨W, H, I, ss⟩ := P
 have hsz := sizeB_is W H I ss n hn
 obtain ⟨hn0, hst⟩ := hP
 have hnH := Lib.hid hn
 have hvH := Lib.hid hv
 have hstH := Lib.hid hst
 simp only at hnH hvH hstH hr hn0
 rw [hnH.out] at hn0
 have hB : Below w.heap.size w w := Below.refl _ _
 clear hn hv hst
 have tok1 : True := trivial
 have tok2 : True := trivial
 have tok3 : True := trivial
 have tok4 : True := trivial
 have tok5 : True := trivial
 have tok6 : True := trivial
 unfold pipev
 simp only
 obtain ⟨V1, hEV1, hbV1, kp⟩ := newB w 24 #[.int .i64 W, .int .i64 H, .int .i64 I, .slice a n c]
 replace hB := tmB hB hbV1
 clear hbV1
 obtain ⟨m0, m1, m2, m3⟩ := cz4 kp
 cases h1 : inR W 1 16 with
 | false =>
  have hvf : v = false := by rw [← hvH.out]; exact pipeB_size (by rw [hsz, h1]; simp)
  subst hvf
  have h1H := Lib.hid h1
  clear h1 hsz hvH hr hstH hnH
  go_enter Tryz.func41, Tryz.ntmps41
  go_wp2_with (go_at_call 70; have _t := tok1; refine (pwithin W 1 16 false h1H.out _).mono ?_; clear _t tok1; rintro e w' ⟨rfl, rfl⟩)
  go_ret
  exact ⟨rfl, hB⟩
 | true =>
 have h1H := Lib.hid h1
 have g0 := h1
 clear h1
 cases h2 : inR H 1 16 with
 | false =>
  have hvf : v = false := by rw [← hvH.out]; exact pipeB_size (by rw [hsz, h1H.out, h2]; simp)
  subst hvf
  have h2H := Lib.hid h2
  clear h2 hsz hvH hr hstH hnH
  go_enter Tryz.func41, Tryz.ntmps41
  go_wp2_with (first
   | (go_at_call 70; have _t := tok1; refine (pwithin W 1 16 true h1H.out _).mono ?_; clear _t tok1; rintro e w' ⟨rfl, rfl⟩)
   | (go_at_call 70; have _t := tok2; refine (pwithin H 1 16 false h2H.out _).mono ?_; clear _t tok2; rintro e w' ⟨rfl, rfl⟩))
  go_ret
  exact ⟨rfl, hB⟩
 | true =>
 have h2H := Lib.hid h2
 have g1 := h2
 clear h2
 cases h3 : inR I 1 3 with
 | false =>
  have hvf : v = false := by rw [← hvH.out]; exact pipeB_size (by rw [hsz, h1H.out, h2H.out, h3]; simp)
  subst hvf
  have h3H := Lib.hid h3
  clear h3 hsz hvH hr hstH hnH
  go_enter Tryz.func41, Tryz.ntmps41
  go_wp2_with (first
   | (go_at_call 70; have _t := tok1; refine (pwithin W 1 16 true h1H.out _).mono ?_; clear _t tok1; rintro e w' ⟨rfl, rfl⟩)
   | (go_at_call 70; have _t := tok2; refine (pwithin H 1 16 true h2H.out _).mono ?_; clear _t tok2; rintro e w' ⟨rfl, rfl⟩)
   | (go_at_call 70; have _t := tok3; refine (pwithin I 1 3 false h3H.out _).mono ?_; clear _t tok3; rintro e w' ⟨rfl, rfl⟩))
  go_ret
  exact ⟨rfl, hB⟩
 | true =>
 have h3H := Lib.hid h3
 have g2 := h3
 clear h3
 cases h4 : inR (n : Int) 1 12 with
 | false =>
  have hvf : v = false := by rw [← hvH.out]; exact pipeB_size (by rw [hsz, h1H.out, h2H.out, h3H.out, h4]; simp)
  subst hvf
  have h4H := Lib.hid h4
  clear h4 hsz hvH hr hstH hnH
  go_enter Tryz.func41, Tryz.ntmps41
  go_wp2_with (first
   | (go_at_call 70; have _t := tok1; refine (pwithin W 1 16 true h1H.out _).mono ?_; clear _t tok1; rintro e w' ⟨rfl, rfl⟩)
   | (go_at_call 70; have _t := tok2; refine (pwithin H 1 16 true h2H.out _).mono ?_; clear _t tok2; rintro e w' ⟨rfl, rfl⟩)
   | (go_at_call 70; have _t := tok3; refine (pwithin I 1 3 true h3H.out _).mono ?_; clear _t tok3; rintro e w' ⟨rfl, rfl⟩)
   | (go_at_call 70; have _t := tok4; refine (pwithin (n : Int) 1 12 false h4H.out _).mono ?_; clear _t tok4; rintro e w' ⟨rfl, rfl⟩))
  go_ret
  exact ⟨rfl, hB⟩
 | true =>
 have h4H := Lib.hid h4
 have g3 := h4
 clear h4
 have hszt : sizeB ⟨W, H, I, ss⟩ = true := by rw [hsz, h1H.out, h2H.out, h3H.out, h4H.out]; rfl
 have hsztH := Lib.hid hszt
 clear hszt hsz
 simp only [inR, Bool.and_eq_true, decide_eq_true_eq] at g0 g1 g2 g3
 have hd0 : 1 ≤ n ∧ n ≤ 12 := by omega
 have mm0 := m0
 have mm1 := m1
 have mm2 := m2
 have mm3 := m3
 obtain ⟨V2, hEV2, hbV2, k0⟩ := newB V1 3 #[.int .i64 0]
 clear m0 m1 m2 m3
 replace kp := kp.below hbV2 kp.lt
 replace hB := tmB hB hbV2
 clear hbV2
 obtain ⟨m0, m1, m2, m3⟩ := cz4 kp
 have z0 := k0.cell (i := 0) rfl
 have ki := Blk.new V2 32 #[.int .i64 0, .int .i64 0, .slice none 0 0]
 obtain ⟨bki, hxki⟩ : ∃ b, V2.heap.size = b := ⟨_, rfl⟩
 obtain ⟨V2a, hAki⟩ : ∃ X, V2.alloc (.cells #[.int .i64 0, .int .i64 0, .slice none 0 0] 32) = X := ⟨_, rfl⟩
 have hba : Below V2.heap.size V2 V2a := alloc_below hAki
 rw [hAki, hxki] at ki
 have hleki : V2.heap.size ≤ bki := by omega
 have yki0 := ki.cell (i := 0) rfl
 have fyki0 := ki.frozen 0
 have yki1 := ki.cell (i := 1) rfl
 have fyki1 := ki.frozen 1
 have yki2 := ki.cell (i := 2) rfl
 have fyki2 := ki.frozen 2
 have kin := put3_blk ki (.int .i64 1) (.int .i64 1) (.slice (some ⟨V1.heap.size, 0, none⟩) 1 1)
 have hb : Below V2.heap.size V2 (put3 V2a bki (.int .i64 1) (.int .i64 1) (.slice (some ⟨V1.heap.size, 0, none⟩) 1 1)) := hba.trans (put3_below hleki (.int .i64 1) (.int .i64 1) (.slice (some ⟨V1.heap.size, 0, none⟩) 1 1))
 obtain ⟨V3, hPki⟩ : ∃ X, put3 V2a bki (.int .i64 1) (.int .i64 1) (.slice (some ⟨V1.heap.size, 0, none⟩) 1 1) = X := ⟨_, rfl⟩
 rw [hPki] at kin hb
 replace ki := kin
 clear kin hba hleki
 clear m0 m1 m2 m3 z0
 replace kp := kp.below hb kp.lt
 replace k0 := k0.below hb k0.lt
 replace hB := tmB hB hb
 clear hb
 obtain ⟨m0, m1, m2, m3⟩ := cz4 kp
 have z0 := k0.cell (i := 0) rfl
 obtain ⟨q0, q1, q2⟩ := cz3 ki
 go_enter Tryz.func41, Tryz.ntmps41
 go_wp2_with (first
  | (go_at_call 70; have _t := tok1; refine (pwithin W 1 16 true h1H.out _).mono ?_; clear _t tok1; rintro e w' ⟨rfl, rfl⟩)
  | (go_at_call 70; have _t := tok2; refine (pwithin H 1 16 true h2H.out _).mono ?_; clear _t tok2; rintro e w' ⟨rfl, rfl⟩)
  | (go_at_call 70; have _t := tok3; refine (pwithin I 1 3 true h3H.out _).mono ?_; clear _t tok3; rintro e w' ⟨rfl, rfl⟩)
  | (go_at_call 70; have _t := tok4; refine (pwithin (n : Int) 1 12 true h4H.out _).mono ?_; clear _t tok4; rintro e w' ⟨rfl, rfl⟩))
 clear hEV1 hEV2 hAki hxki hPki yki0 yki1 yki2 fyki0 fyki1 fyki2
 clear mm0 mm1 mm2 mm3
 clear m0 m1 m2 m3 z0 q0 q1 q2
 go_loopw [38] (fun i wr => ∃ k : Nat, k ≤ n ∧ i = .int .i64 (k : Int) ∧ Hid (stepsB I ss k = true) ∧ Below w.heap.size w wr ∧ Blk wr w.heap.size 24 #[.int .i64 W, .int .i64 H, .int .i64 I, .slice a n c] ∧ Blk wr (V1.heap.size) 3 #[.int .i64 0] ∧ Blk wr bki 32 #[.int .i64 1, .int .i64 1, .slice (some ⟨V1.heap.size, 0, none⟩) 1 1]) (fun i _ => n - (intOf i).toNat)
 case atStart => exact ⟨0, Nat.zero_le _, rfl, Lib.hid rfl, hB, kp, k0, ki⟩
 case round =>
  clear hB kp k0 ki
  obtain ⟨k, hk, rfl, hall, hB, kp, k0, ki⟩ := hrel
  by_cases hlt : k < n
  case neg =>
   have hkn : k = n := by omega
   subst hkn
   have hvt : v = true := by rw [← hvH.out]; unfold pipeB; rw [hsztH.out]; simp only; rw [hnH.out, hall.out]; rfl
   subst hvt
   go_wp2_with fail
   go_ret
   exact ⟨rfl, hB⟩
  case pos =>
  have hkl : k < ss.length := by have := hnH.out; omega
  have hs := hstH.out k hkl
  have hno : (needB (stAt ss k) && refB I k (stAt ss k)) = false → v = false := fun h => by rw [← hvH.out]; exact pipeB_no (P := ⟨W, H, I, ss⟩) hkl h
  have hyes : (needB (stAt ss k) && refB I k (stAt ss k)) = true → stepsB I ss (k + 1) = true := fun h => by rw [stepsB, hall.out, h]; rfl
  obtain ⟨b, o, ka, kc, sa, sc, rfl, hbl, hst⟩ : ∃ b o ka kc sa sc, a = some ⟨b, o, none⟩ ∧ b < w.heap.size ∧ StAt w.heap.size w b (o + k * 16) (stAt ss k) ka kc sa sc := by
   rcases hr with h | ⟨b, o, h1, h2, h3⟩
   ·exfalso; rw [h] at hkl; simp at hkl
   ·obtain ⟨ka, kc, sa, sc, e⟩ := h3 k hkl
    exact ⟨b, o, ka, kc, sa, sc, h1, h2, e⟩
  obtain ⟨s, hse⟩ : ∃ s, stAt ss k = s := ⟨_, rfl⟩
  rw [hse] at hs hno hyes hst
  have hseH := Lib.hid hse
  have hnoH := Lib.hid hno
  have hyesH := Lib.hid hyes
  clear hse hno hyes
  obtain ⟨hcell, hta, hbi⟩ := hst
  have c0 : wr.cell? ⟨b, o + k * 16, none⟩ = some (.int .u8 s.op) := (hB.cell (p := ⟨b, o + k * 16, none⟩) hbl).trans (hcell 0 _ rfl)
  have c1 : wr.cell? ⟨b, o + k * 16 + 1, none⟩ = some (.int .i64 s.a) := (hB.cell (p := ⟨b, o + k * 16 + 1, none⟩) hbl).trans (hcell 1 _ rfl)
  have c2 : wr.cell? ⟨b, o + k * 16 + 2, none⟩ = some (.int .i64 s.b) := (hB.cell (p := ⟨b, o + k * 16 + 2, none⟩) hbl).trans (hcell 2 _ rfl)
  have c3 : wr.cell? ⟨b, o + k * 16 + 3, none⟩ = some (.int .i64 s.pt.mul) := (hB.cell (p := ⟨b, o + k * 16 + 3, none⟩) hbl).trans (hcell 3 _ rfl)
  have c4 : wr.cell? ⟨b, o + k * 16 + 4, none⟩ = some (.int .i64 s.pt.add) := (hB.cell (p := ⟨b, o + k * 16 + 4, none⟩) hbl).trans (hcell 4 _ rfl)
  have c5 : wr.cell? ⟨b, o + k * 16 + 5, none⟩ = some (.int .i64 s.pt.div) := (hB.cell (p := ⟨b, o + k * 16 + 5, none⟩) hbl).trans (hcell 5 _ rfl)
  have c6 : wr.cell? ⟨b, o + k * 16 + 6, none⟩ = some (.int .i64 s.pt.lo) := (hB.cell (p := ⟨b, o + k * 16 + 6, none⟩) hbl).trans (hcell 6 _ rfl)
  have c7 : wr.cell? ⟨b, o + k * 16 + 7, none⟩ = some (.int .i64 s.pt.hi) := (hB.cell (p := ⟨b, o + k * 16 + 7, none⟩) hbl).trans (hcell 7 _ rfl)
  have c8 : wr.cell? ⟨b, o + k * 16 + 8, none⟩ = some (.int .u8 s.how) := (hB.cell (p := ⟨b, o + k * 16 + 8, none⟩) hbl).trans (hcell 8 _ rfl)
  have c9 : wr.cell? ⟨b, o + k * 16 + 9, none⟩ = some (.int .i64 s.kw) := (hB.cell (p := ⟨b, o + k * 16 + 9, none⟩) hbl).trans (hcell 9 _ rfl)
  have c10 : wr.cell? ⟨b, o + k * 16 + 10, none⟩ = some (.int .i64 s.kh) := (hB.cell (p := ⟨b, o + k * 16 + 10, none⟩) hbl).trans (hcell 10 _ rfl)
  have c11 : wr.cell? ⟨b, o + k * 16 + 11, none⟩ = some (.slice ka s.taps.length kc) := (hB.cell (p := ⟨b, o + k * 16 + 11, none⟩) hbl).trans (hcell 11 _ rfl)
  have c12 : wr.cell? ⟨b, o + k * 16 + 12, none⟩ = some (.int .u8 s.bd) := (hB.cell (p := ⟨b, o + k * 16 + 12, none⟩) hbl).trans (hcell 12 _ rfl)
  have c13 : wr.cell? ⟨b, o + k * 16 + 13, none⟩ = some (.int .i64 s.sw) := (hB.cell (p := ⟨b, o + k * 16 + 13, none⟩) hbl).trans (hcell 13 _ rfl)
  have c14 : wr.cell? ⟨b, o + k * 16 + 14, none⟩ = some (.int .i64 s.sh) := (hB.cell (p := ⟨b, o + k * 16 + 14, none⟩) hbl).trans (hcell 14 _ rfl)
  have c15 : wr.cell? ⟨b, o + k * 16 + 15, none⟩ = some (.slice sa s.bits.length sc) := (hB.cell (p := ⟨b, o + k * 16 + 15, none⟩) hbl).trans (hcell 15 _ rfl)
  have lp := kp.lt
  have l0 := k0.lt
  have li := ki.lt
  have lw := hB.size
  clear hcell
  obtain ⟨m0, m1, m2, m3⟩ := cz4 kp
  obtain ⟨V11, hEV11, hbV11, ks⟩ := newB wr 76 #[.int .u8 s.op, .int .i64 s.a, .int .i64 s.b, .int .i64 s.pt.mul, .int .i64 s.pt.add, .int .i64 s.pt.div, .int .i64 s.pt.lo, .int .i64 s.pt.hi, .int .u8 s.how, .int .i64 s.kw, .int .i64 s.kh, .slice ka s.taps.length kc, .int .u8 s.bd, .int .i64 s.sw, .int .i64 s.sh, .slice sa s.bits.length sc]
  clear m0 m1 m2 m3
  replace kp := kp.below hbV11 kp.lt
  replace k0 := k0.below hbV11 k0.lt
  replace ki := ki.below hbV11 ki.lt
  replace hB := tmB hB hbV11
  clear hbV11
  obtain ⟨y0, y1, y2, y3, y4, y5, y6, y7, y8, y9, y10, y11, y12, y13, y14, y15⟩ := cz16 ks
  go_wp2_with fail
  clear hEV11
  refine (operands_any s hs ka sa kc sc V11).mono ?_
  rintro e V12 ⟨pa, pc, rfl, hro, hb⟩
  clear y0 y1 y2 y3 y4 y5 y6 y7 y8 y9 y10 y11 y12 y13 y14 y15
  replace kp := kp.below hb kp.lt
  replace k0 := k0.below hb k0.lt
  replace ki := ki.below hb ki.lt
  replace ks := ks.below hb ks.lt
  replace hB := tmB hB hb
  clear hb
  clear c0 c1 c2 c3 c4 c5 c6 c7 c8 c9 c10 c11 c12 c13 c14 c15
  obtain ⟨ol1, ol2⟩ := opsN_len s
  have hrefE := refB_ops I k s
  obtain ⟨L, hL⟩ : ∃ L, opsN s = L := ⟨_, rfl⟩
  rw [hL] at hro hrefE ol1 ol2 ⊢
  obtain ⟨m, hm⟩ : ∃ m, L.length = m := ⟨_, rfl⟩
  have hmH := Lib.hid hm
  rw [hm] at ol1 ol2 ⊢
  have hrefH := Lib.hid hrefE
  clear hL hm hrefE
  obtain ⟨m0, m1, m2, m3⟩ := cz4 kp
  go_wp2_with fail
  go_loop [46] (fun i => ∃ j : Nat, j ≤ m ∧ i = .int .i64 (j : Int) ∧ Hid (∀ t, t < j → inR (L[t]?.getD 0) 0 (I + k - 1) = true)) (fun i => m - (intOf i).toNat)
  case atStart => exact ⟨0, Nat.zero_le _, rfl, Lib.hid (fun t ht => absurd ht (Nat.not_lt_zero _))⟩
  case round =>
   obtain ⟨j, hj, rfl, hops⟩ := hrel
   by_cases hlt2 : j < m
   case pos =>
    have hjL : j < L.length := by have := hmH.out; omega
    rcases hro with h0 | ⟨bo, oo, rfl, hbo, hco⟩
    ·exfalso; rw [h0] at hjL; simp at hjL
    have hcj := hco j hjL
    obtain ⟨x, hx⟩ : ∃ x, L[j]?.getD 0 = x := ⟨_, rfl⟩
    rw [hx] at hcj
    have hxH := Lib.hid hx
    clear hx hco
    cases hin : inR x 0 (I + (k : Int) - 1) with
    | false =>
     have hvf : v = false := hnoH.out (by rw [hrefH.out, all_not hjL (by rw [hxH.out]; exact hin)]; simp)
     subst hvf
     have hinH := Lib.hid hin
     clear hin
     have tok1 : True := trivial
     go_wp2_with (go_at_call 70; have _t := tok1; refine (pwithin x 0 (I + (k : Int) - 1) false hinH.out _).mono ?_; clear _t tok1; rintro e w' ⟨rfl, rfl⟩)
     go_ret
     exact ⟨rfl, hB⟩
    | true =>
     have hinH := Lib.hid hin
     clear hin
     have tok1 : True := trivial
     go_wp2_with (go_at_call 70; have _t := tok1; refine (pwithin x 0 (I + (k : Int) - 1) true hinH.out _).mono ?_; clear _t tok1; rintro e w' ⟨rfl, rfl⟩)
     go_round
     case rel =>
      refine ⟨j + 1, by omega, by go_num, Lib.hid fun t ht => ?_⟩
      by_cases e : t = j
      ·subst e; rw [hxH.out]; exact hinH.out
      ·exact hops.out t (by omega)
     case measure => simp [intOf]; omega
   case neg =>
    have hjm : j = m := by omega
    subst hjm
    have href : refB I k s = true := by rw [hrefH.out]; exact all_take (j := 0) (by rw [hmH.out]; exact hops.out)
    have hrefH2 := Lib.hid href
    clear href hops hrefH hro
    have gg1 := ks.cell (i := 1) rfl
    have gg2 := ks.cell (i := 2) rfl
    have fs0 := fun i => ks.frozen i
    have fs3 := (ks.set 1 (.int .i64 0)).frozen 2
    have hone := app_one s
    obtain ⟨X1, hX1⟩ : ∃ X, (V12.setCell ⟨wr.heap.size, 1, none⟩ (.int .i64 0)).setCell ⟨wr.heap.size, 2, none⟩ (.int .i64 0) = X := ⟨_, rfl⟩
    replace ks : Blk X1 wr.heap.size 76 #[.int .u8 s.op, .int .i64 0, .int .i64 0, .int .i64 s.pt.mul, .int .i64 s.pt.add, .int .i64 s.pt.div, .int .i64 s.pt.lo, .int .i64 s.pt.hi, .int .u8 s.how, .int .i64 s.kw, .int .i64 s.kh, .slice ka s.taps.length kc, .int .u8 s.bd, .int .i64 s.sw, .int .i64 s.sh, .slice sa s.bits.length sc] := by rw [← hX1]; exact (ks.set 1 (.int .i64 0)).set 2 (.int .i64 0)
    replace kp : Blk X1 w.heap.size 24 #[.int .i64 W, .int .i64 H, .int .i64 I, .slice (some ⟨b, o, none⟩) n c] := by rw [← hX1]; exact (kp.other (a := ⟨wr.heap.size, 1, none⟩) (by show w.heap.size ≠ wr.heap.size; omega) _).other (a := ⟨wr.heap.size, 2, none⟩) (by show w.heap.size ≠ wr.heap.size; omega) _
    replace k0 : Blk X1 (V1.heap.size) 3 #[.int .i64 0] := by rw [← hX1]; exact (k0.other (a := ⟨wr.heap.size, 1, none⟩) (by show V1.heap.size ≠ wr.heap.size; omega) _).other (a := ⟨wr.heap.size, 2, none⟩) (by show V1.heap.size ≠ wr.heap.size; omega) _
    replace ki : Blk X1 bki 32 #[.int .i64 1, .int .i64 1, .slice (some ⟨V1.heap.size, 0, none⟩) 1 1] := by rw [← hX1]; exact (ki.other (a := ⟨wr.heap.size, 1, none⟩) (by show bki ≠ wr.heap.size; omega) _).other (a := ⟨wr.heap.size, 2, none⟩) (by show bki ≠ wr.heap.size; omega) _
    replace hB : Below w.heap.size w X1 := by rw [← hX1]; exact (hB.setCell lw _).setCell lw _
    have fs : ∀ i, V12.frozen? ⟨wr.heap.size, i, none⟩ = false := fs0
    have fs1 := fs 1
    have fs2 : (V12.setCell ⟨wr.heap.size, 1, none⟩ (.int .i64 0)).frozen? ⟨wr.heap.size, 2, none⟩ = false := fs3
    clear fs
    obtain ⟨y0, y1, y2, y3, y4, y5, y6, y7, y8, y9, y10, y11, y12, y13, y14, y15⟩ := cz16 ks
    obtain ⟨q0, q1, q2⟩ := cz3 ki
    have yy0 := y0
    have yy1 := y1
    have yy2 := y2
    have yy3 := y3
    have yy4 := y4
    have yy5 := y5
    have yy6 := y6
    have yy7 := y7
    have yy8 := y8
    have yy9 := y9
    have yy10 := y10
    have yy11 := y11
    have yy12 := y12
    have yy13 := y13
    have yy14 := y14
    have yy15 := y15
    have qq0 := q0
    have qq1 := q1
    have qq2 := q2
    obtain ⟨V13, hEV13, hbV13, ko⟩ := newB X1 32 #[.int .i64 1, .int .i64 1, .slice (some ⟨V1.heap.size, 0, none⟩) 1 1]
    clear y0 y1 y2 y3 y4 y5 y6 y7 y8 y9 y10 y11 y12 y13 y14 y15 q0 q1 q2
    replace ks := ks.below hbV13 ks.lt
    replace kp := kp.below hbV13 kp.lt
    replace k0 := k0.below hbV13 k0.lt
    replace ki := ki.below hbV13 ki.lt
    replace hB := tmB hB hbV13
    clear hbV13
    have hro : RdPs V13.heap.size V13 (some ⟨X1.heap.size, 0, none⟩) [onePic] := .inr ⟨_, 0, rfl, ko.lt, fun i hi => by
     obtain rfl : i = 0 := by simp at hi; omega
     exact ⟨some ⟨V1.heap.size, 0, none⟩, 1, ko.cell (i := 0) rfl, ko.cell (i := 1) rfl, ko.cell (i := 2) rfl, .inr ⟨_, 0, rfl, k0.lt, fun t ht => by
      have : t < 1 := ht
      obtain rfl : t = 0 := by omega
      exact k0.cell (i := 0) rfl⟩, fun h => by cases h⟩⟩
    obtain ⟨R, hR⟩ : ∃ R, appS { s with a := 0, b := 0 } [onePic] = R := ⟨_, rfl⟩
    rw [hR] at hone
    go_wp2_with fail
    clear hX1 hEV13
    clear yy0 yy1 yy2 yy3 yy4 yy5 yy6 yy7 yy8 yy9 yy10 yy11 yy12 yy13 yy14 yy15 qq0 qq1 qq2 fs1 fs2 gg1 gg2
    have hs0 : StepIn { s with a := 0, b := 0 } := ⟨hs.op, hs.how, hs.bd, hs.tl, hs.bl⟩
    have hc := apply_any { s with a := 0, b := 0 } hs0 ka sa kc sc [onePic] (some ⟨X1.heap.size, 0, none⟩) 1 1 rfl (fun i _ => by cases i with
     | zero => decide
     | succ i => show (picAt [onePic] (i + 1)).px.length ≤ _; simp [picAt]) (show (0 : Int) ≤ 0 by decide) (show (0 : Int) < 1 by decide) (fun _ => ⟨show (0 : Int) ≤ 0 by decide, show (0 : Int) < 1 by decide⟩) V13 hro (later_i hta hB) ((hbi.below (Nat.le_refl _) hB).mono hB.size)
    rw [hR] at hc
    refine hc.mono ?_
    clear hc hro hs0 hR
    obtain ⟨rw0, rh0, rpx, er⟩ := R
    rintro e X5 ⟨⟨vv, rfl, tt, rfl, hrow⟩, hb⟩
    obtain ⟨ra, rc, rfl⟩ := row_slice hrow
    simp only at hone hrow
    obtain ⟨rl, hrl⟩ : ∃ l, rpx.length = l := ⟨_, rfl⟩
    rw [hrl]
    clear hrow hrl
    replace ks := ks.below hb ks.lt
    replace kp := kp.below hb kp.lt
    replace k0 := k0.below hb k0.lt
    replace ki := ki.below hb ki.lt
    replace ko := ko.below hb ko.lt
    replace hB := tmB hB hb
    clear hb
    clear ko ks
    have kr := Blk.new X5 32 #[.int .i64 0, .int .i64 0, .slice none 0 0]
    obtain ⟨bkr, hxkr⟩ : ∃ b, X5.heap.size = b := ⟨_, rfl⟩
    obtain ⟨X5a, hAkr⟩ : ∃ X, X5.alloc (.cells #[.int .i64 0, .int .i64 0, .slice none 0 0] 32) = X := ⟨_, rfl⟩
    have hba : Below X5.heap.size X5 X5a := alloc_below hAkr
    rw [hAkr, hxkr] at kr
    have hlekr : X5.heap.size ≤ bkr := by omega
    have ykr0 := kr.cell (i := 0) rfl
    have fykr0 := kr.frozen 0
    have ykr1 := kr.cell (i := 1) rfl
    have fykr1 := kr.frozen 1
    have ykr2 := kr.cell (i := 2) rfl
    have fykr2 := kr.frozen 2
    have krn := put3_blk kr (.int .i64 rw0) (.int .i64 rh0) (.slice ra rl rc)
    have hb : Below X5.heap.size X5 (put3 X5a bkr (.int .i64 rw0) (.int .i64 rh0) (.slice ra rl rc)) := hba.trans (put3_below hlekr (.int .i64 rw0) (.int .i64 rh0) (.slice ra rl rc))
    obtain ⟨V14, hPkr⟩ : ∃ X, put3 X5a bkr (.int .i64 rw0) (.int .i64 rh0) (.slice ra rl rc) = X := ⟨_, rfl⟩
    rw [hPkr] at krn hb
    replace kr := krn
    clear krn hba hlekr
    replace kp := kp.below hb kp.lt
    replace k0 := k0.below hb k0.lt
    replace ki := ki.below hb ki.lt
    replace hB := tmB hB hb
    clear hb
    cases hnd : needB s with
    | false =>
     have hvf : v = false := hnoH.out (by rw [hnd]; rfl)
     subst hvf
     have he0 : ¬ er = 0 := fun h => by have := hone.1 h; rw [hnd] at this; cases this
     have he : (er != 0) = true := by simpa using he0
     clear hone hnd
     go_wp2_with fail
     go_ret
     exact ⟨rfl, hB⟩
    | true =>
     have he : er = 0 := hone.2 hnd
     subst he
     have hyk := hyesH.out (by rw [hnd, hrefH2.out]; rfl)
     have hykH := Lib.hid hyk
     clear hone hnd hyk
     go_wp2_with fail
     go_roundw
     case rel =>
       exact ⟨k + 1, by omega, by go_num, hykH, hB, kp, k0, ki⟩
     case measure => simp [intOf]; omega
end Go.Proofs.YtekiemlniegddaaGreat
namespace Go.Proofs.YtekiemlniegddaaGreat
open Go Go.ChangeShapes Go.WideShapes Go.ChangeAt Go.RowKit Go.Joins Go.Deep
set_option maxRecDepth 100000
section
variable {H : Type} {enc : TypeId × Value → H}
instance : Inhabited StepN := ⟨noStep⟩
instance : Inhabited PicN := ⟨⟨0, 0, []⟩⟩
theorem some_ofP {α : Type} {l : List α} {i : Nat} (h : i < l.length) : ∃ x, l[i]? = some x := ⟨_, List.getElem?_eq_getElem h⟩
end
end Go.Proofs.YtekiemlniegddaaGreat
namespace Go.Proofs.YtekiemlniegddaaGreat
open Go Go.Maps
theorem plainElem_bool_inv {H : Type} {P : Program} {e : TypeId} (he : P.underlying e = some .bool) {v : Value} {z : DataW H × List MemPlace} (h : plainElem P e v = some z) : ∃ x, v = .bool x ∧ z = (.lit (.bool x), []) := by
 unfold plainElem at h
 rw [he] at h
 cases v <;> simp at h
 exact ⟨_, rfl, h.symm⟩
theorem lookup_bool {H : Type} {P : Program} {w : World} {t k e : TypeId} {b n : Nat} {D : DataW H} (h : w.ownsMap P k (plainElem P e) b n D) (K : Keyed P k) (ht : P.underlying t = some (.map k e)) (he : P.underlying e = some .bool) (hz : (zeroValue e).run P w = .ok (.bool false) w)
  {key : Value} {kl : Lit} (hkey : keyOf P k key = some kl) : ∃ c, (Instr.lookup t (.map (some b)) key false).run P w = .ok (.bool c) w ∧ D.atKey kl (.lit (.bool false)) = .lit (.bool c) := by
 obtain ⟨v, ps, hrun, hv⟩ := h.lookup K ht hz (plainElem_bool he false) hkey
 obtain ⟨c, rfl, hc⟩ := plainElem_bool_inv he hv
 simp only [Prod.mk.injEq] at hc
 exact ⟨c, hrun, hc.1⟩
end Go.Proofs.YtekiemlniegddaaGreat
namespace Go.Proofs.YtekiemlniegddaaGreat
open Go Go.Maps
/-- How many of the first m keys are there. -/
def cntF (F : Int → Option Lit) : Nat → Nat
 | 0 => 0
 | m + 1 => cntF F m + if (F (m : Int)).isSome = true then 1 else 0
def putF (F : Int → Option Lit) (k : Int) (v : Lit) : Int → Option Lit := fun j => if j = k then some v else F j
def delF (F : Int → Option Lit) (k : Int) : Int → Option Lit := fun j => if j = k then none else F j
theorem cntF_congr {F G : Int → Option Lit} : ∀ {m : Nat}, (∀ j : Nat, j < m → (F (j : Int)).isSome = (G (j : Int)).isSome) → cntF F m = cntF G m
 | 0, _ => rfl
 | m + 1, h => by rw [cntF, cntF, cntF_congr (fun j hj => h j (by omega)), h m (by omega)]
theorem cntF_put (F : Int → Option Lit) (v : Lit) {k : Nat} : ∀ {m : Nat}, k < m → cntF (putF F (k : Int) v) m = if (F (k : Int)).isSome = true then cntF F m else cntF F m + 1
 | m + 1, h => by
  by_cases e : k = m
  ·subst e
   have h1 : cntF (putF F (k : Int) v) k = cntF F k := cntF_congr fun j hj => by unfold putF; rw [if_neg (by omega)]
   rw [cntF, cntF, h1]
   have h2 : (putF F (k : Int) v (k : Int)).isSome = true := by unfold putF; rw [if_pos rfl]; rfl
   rw [if_pos h2]
   split <;> omega
  ·have h1 := cntF_put F v (k := k) (m := m) (by omega)
   have h2 : putF F (k : Int) v (m : Int) = F (m : Int) := by unfold putF; rw [if_neg (by omega)]
   rw [cntF, cntF, h1, h2]
   split <;> split <;> omega
theorem cntF_del (F : Int → Option Lit) {k : Nat} : ∀ {m : Nat}, k < m → cntF (delF F (k : Int)) m + (if (F (k : Int)).isSome = true then 1 else 0) = cntF F m
 | m + 1, h => by
  by_cases e : k = m
  ·subst e
   have h1 : cntF (delF F (k : Int)) k = cntF F k := cntF_congr fun j hj => by unfold delF; rw [if_neg (by omega)]
   rw [cntF, cntF, h1]
   have h2 : (delF F (k : Int) (k : Int)).isSome = false := by unfold delF; rw [if_pos rfl]; rfl
   rw [h2]
   simp
  ·have h1 := cntF_del F (k := k) (m := m) (by omega)
   have h2 : delF F (k : Int) (m : Int) = F (m : Int) := by unfold delF; rw [if_neg (by omega)]
   rw [cntF, cntF, h2]
   omega
abbrev ik (k : Int) : Lit := .int .i64 k
/-- A map's datum, as a function of its keys; all keys are from 0 to m - 1. -/
structure FnM (D : DataW Unit) (F : Int → Option Lit) (m : Nat) : Prop where
 tidy : Tidy D
 here : ∀ k : Int, (Lit.int .i64 k).wf = true → ∀ v, F k = some v → ∀ z, D.atKey (ik k) z = .lit v
 gone : ∀ k : Int, (Lit.int .i64 k).wf = true → F k = none → has D (ik k) = false
 size : size D = cntF F m
theorem ik_key {k : Int} (hk : (Lit.int .i64 k).wf = true) : WideAt.IsKeyLit (ik k) := by
 unfold WideAt.IsKeyLit
 first | exact hk | simp [hk] | trivial
theorem ik_ne {j k : Int} (h : j ≠ k) : ik j ≠ ik k := fun e => by injection e with _ e2; exact h e2
theorem FnM.has {D : DataW Unit} {F : Int → Option Lit} {m : Nat} (h : FnM D F m) {k : Int} (hk : (Lit.int .i64 k).wf = true) : Maps.has D (ik k) = (F k).isSome := by
 cases e : F k with
 | none => exact h.gone k hk e
 | some v => exact has_true_of_atKey (fun z => h.here k hk v e z)
theorem FnM.none_at {D : DataW Unit} {F : Int → Option Lit} {m : Nat} (h : FnM D F m) {k : Int} (hk : (Lit.int .i64 k).wf = true) (e : F k = none) (z : DataW Unit) : D.atKey (ik k) z = z := atKey_of_not_has (h.gone k hk e) z
theorem FnM.empty (m : Nat) : FnM (.map []) (fun _ => none) m where
 tidy := tidy_empty
 here := fun k _ v hv => by cases hv
 gone := fun k _ _ => rfl
 size := by
  have : ∀ m, cntF (fun _ => none) m = 0 := fun m => by
   induction m with
   | zero => rfl
   | succ m ih => rw [cntF, ih]; rfl
  rw [this]; rfl
theorem FnM.put {D : DataW Unit} {F : Int → Option Lit} {m : Nat} (h : FnM D F m) {k : Nat} (hk : (Lit.int .i64 (k : Int)).wf = true) (hm : k < m) (v : Lit) : FnM (D.put (ik (k : Int)) (.lit v)) (putF F (k : Int) v) m where
 tidy := h.tidy.put (ik_key hk) _
 here := fun j hj u hu z => by
  unfold putF at hu
  by_cases e : j = (k : Int)
  ·subst e
   rw [if_pos rfl] at hu
   cases hu
   exact atKey_put_same h.tidy.isMap (ik_key hk) _ _
  ·rw [if_neg e] at hu
   rw [atKey_put_other (ik_ne e)]
   exact h.here j hj u hu z
 gone := fun j hj hu => by
  unfold putF at hu
  by_cases e : j = (k : Int)
  ·rw [if_pos e] at hu; cases hu
  ·rw [if_neg e] at hu
   rw [has_put_other (ik_ne e)]
   exact h.gone j hj hu
 size := by
  rw [size_put h.tidy, h.has hk, h.size, cntF_put F v hm]
theorem FnM.del {D : DataW Unit} {F : Int → Option Lit} {m : Nat} (h : FnM D F m) {k : Nat} (hk : (Lit.int .i64 (k : Int)).wf = true) (hm : k < m) : FnM (D.del (ik (k : Int))) (delF F (k : Int)) m where
 tidy := h.tidy.del _
 here := fun j hj u hu z => by
  unfold delF at hu
  by_cases e : j = (k : Int)
  ·rw [if_pos e] at hu; cases hu
  ·rw [if_neg e] at hu
   rw [atKey_del_other (ik_ne e)]
   exact h.here j hj u hu z
 gone := fun j hj hu => by
  by_cases e : j = (k : Int)
  ·subst e; exact has_del_same
  ·unfold delF at hu
   rw [if_neg e] at hu
   rw [has_del_other (ik_ne e)]
   exact h.gone j hj hu
 size := by
  have h1 := size_del (k := ik (k : Int)) h.tidy
  have h2 := cntF_del F hm
  rw [h.has hk, h.size] at h1
  omega
end Go.Proofs.YtekiemlniegddaaGreat
