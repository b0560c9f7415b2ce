/- Pipes that keep the order of images. Plain laws. -/
import Derived.Test.YtekiemlniegddaaGreatQH16
import Derived.Test.YtekiemlniegddaaGreatUMono
namespace Go.Proofs.YtekiemlniegddaaGreat
open Go Go.RowKit Go.Shelf
set_option linter.unusedVariables false
set_option linter.unusedSimpArgs false

/-- A step keeps the order of images. -/
def monB (s : StepN) : Bool := !decide (s.op = 3) && (!(decide (s.op = 1) && decide (s.pt.mul < 0)) && !(decide (s.op = 2) && (decide (s.how ≠ 3) && decide (s.how ≠ 4))))
theorem mor_mono {pw ph sw sh : Nat} {bits : List Bool} {xs ys : List Int} (mx : Bool) (hx : rng xs) (hy : rng ys) (h : belowB (pw * ph) xs ys = true) : belowB (pw * ph) (mor pw ph sw sh bits mx xs) (mor pw ph sw sh bits mx ys) = true := by
 cases mx
 ·rw [← mor_gal (mor_rng _ _) hy]
  exact belowB_trans (open_le hx) h
 ·rw [mor_gal hx (mor_rng _ _)]
  exact belowB_trans h (le_close hy)
theorem app_mono {s : StepN} {ms ns : List PicN} {pw ph : Nat} (hn : needB s = true) (hm : monB s = true) (hA : PicOk pw ph (picAt ms s.a.toNat)) (hA' : PicOk pw ph (picAt ns s.a.toNat)) (hB : s.op = 2 → PicOk pw ph (picAt ms s.b.toNat)) (hB' : s.op = 2 → PicOk pw ph (picAt ns s.b.toNat))
  (hle : belowB (pw * ph) (picAt ms s.a.toNat).px (picAt ns s.a.toNat).px = true) (hl2 : s.op = 2 → belowB (pw * ph) (picAt ms s.b.toNat).px (picAt ns s.b.toNat).px = true) :
  belowB (pw * ph) (resN (appS s ms)).px (resN (appS s ns)).px = true := by
 rw [appS_ok hn hA hB, appS_ok hn hA' hB']
 show belowB _ (img (pw : Int).toNat (ph : Int).toNat _) (img (pw : Int).toNat (ph : Int).toNat _) = true
 rw [Int.toNat_natCast, Int.toNat_natCast]
 have ra : rng (picAt ms s.a.toNat).px := (vld_true hA.v).2.2.2
 have ra' : rng (picAt ns s.a.toNat).px := (vld_true hA'.v).2.2.2
 unfold monB at hm
 simp only [Bool.and_eq_true, Bool.not_eq_true', Bool.and_eq_false_iff, decide_eq_false_iff_not, ne_eq, Decidable.not_not] at hm
 obtain ⟨m3, m1, m2⟩ := hm
 unfold stepG
 unfold needB at hn
 by_cases h1 : s.op = 1
 ·rw [if_pos h1] at hn
  rw [if_pos h1, if_pos h1]
  have h0 : 0 ≤ s.pt.mul := by rcases m1 with h | h <;> omega
  refine belowB_iff.2 fun i hi => ?_
  show px (ptL pw ph s.pt _) i ≤ px (ptL pw ph s.pt _) i
  rw [px_pt hn _ hi, px_pt hn _ hi]
  exact pointF_up hn h0 (belowB_iff.1 hle i hi)
 rw [if_neg h1, if_neg h1]
 by_cases h2 : s.op = 2
 ·rw [if_pos h2, if_pos h2]
  have hh : s.how = 3 ∨ s.how = 4 := by rcases m2 with h | h | h <;> first | exact absurd h2 h | exact .inl h | exact .inr h
  have rb : rng (picAt ms s.b.toNat).px := (vld_true (hB h2).v).2.2.2
  have rb' : rng (picAt ns s.b.toNat).px := (vld_true (hB' h2).v).2.2.2
  have l2 := belowB_iff.1 (hl2 h2)
  refine belowB_iff.2 fun i hi => ?_
  show px (zipI pw ph _ _ s.how) i ≤ px (zipI pw ph _ _ s.how) i
  rw [zipI_px hh ra rb hi, zipI_px hh ra' rb' hi]
  have a1 := belowB_iff.1 hle i hi
  have a2 := l2 i hi
  rcases hh with h | h <;> rw [h]
  ·show min _ _ ≤ min _ _
   omega
  ·show max _ _ ≤ max _ _
   omega
 rw [if_neg h2, if_neg h2, if_neg m3, if_neg m3]
 by_cases h4 : s.op = 4
 ·rw [if_pos h4, if_pos h4]
  exact mor_mono true ra ra' hle
 ·rw [if_neg h4, if_neg h4]
  exact mor_mono false ra ra' hle
section
variable {P : PipeN} {ks ls : List PicN}
theorem im_mono (hP : pipeB P = true) (hk : givenB ks P.inp P.w P.h = true) (hl : givenB ls P.inp P.w P.h = true) (hm : ∀ k, k < P.ss.length → monB (stAt P.ss k) = true)
  (hle : ∀ i, i < P.inp.toNat → belowB (P.w.toNat * P.h.toNat) (picAt ks i).px (picAt ls i).px = true) :
  ∀ k, k ≤ P.ss.length → ∀ m : Int, 0 ≤ m → m < P.inp + k → belowB (P.w.toNat * P.h.toNat) (imN P ks m).px (imN P ls m).px = true
 | 0, _, m, h0, h1 => by
  have lk := givenB_len hk
  have ll := givenB_len hl
  obtain ⟨t, rfl⟩ : ∃ t : Nat, m = (t : Int) := ⟨m.toNat, by omega⟩
  rw [imN_in (by omega) (by omega), imN_in (by omega) (by omega)]
  exact hle t (by omega)
 | k + 1, hk1, m, h0, h1 => by
  by_cases e : m < P.inp + k
  ·exact im_mono hP hk hl hm hle k (by omega) m h0 e
  ·obtain ⟨⟨w1, w2⟩, ⟨g1, g2⟩, h3, _, hall⟩ := pipeB_true hP
   have lk := givenB_len hk
   have ll := givenB_len hl
   obtain rfl : m = P.inp + k := by omega
   obtain ⟨n1, n2⟩ := stepsB_all hall (show k < P.ss.length by omega)
   obtain ⟨r1, r2⟩ := refB_true n2
   rw [imN_step hP (by omega) (by omega), imN_step hP (by omega) (by omega)]
   have ew : ((P.w.toNat : Nat) : Int) = P.w := by omega
   have eh : ((P.h.toNat : Nat) : Int) = P.h := by omega
   have ok := fun {ms : List PicN} (hg : givenB ms P.inp P.w P.h = true) (hl : (ms.length : Int) = P.inp) (x : Int) (x0 : 0 ≤ x) (x1 : x < P.inp + k) => show PicOk (P.w.toNat : Int) (P.h.toNat : Int) (picAt (afterN P.ss ms k) x.toNat) by
    rw [ew, eh, imN_op hP (by omega) (by omega) x0 x1]; exact imN_all hP hg k (by omega) _ x0 x1
   have le := fun (x : Int) (x0 : 0 ≤ x) (x1 : x < P.inp + k) => show belowB (P.w.toNat * P.h.toNat) (picAt (afterN P.ss ks k) x.toNat).px (picAt (afterN P.ss ls k) x.toNat).px = true by
    rw [imN_op hP (by omega) (by omega) x0 x1, imN_op hP (by omega) (by omega) x0 x1]; exact im_mono hP hk hl hm hle k (by omega) x x0 x1
   refine app_mono n1 (hm k (by omega)) (ok hk lk _ r1.1 (by omega)) (ok hl ll _ r1.1 (by omega)) (fun h => ?_) (fun h => ?_) (le _ r1.1 (by omega)) (fun h => ?_)
   ·have := r2 h; exact ok hk lk _ this.1 (by omega)
   ·have := r2 h; exact ok hl ll _ this.1 (by omega)
   ·have := r2 h; exact le _ this.1 (by omega)
theorem mean_mono (hP : pipeB P = true) (hk : givenB ks P.inp P.w P.h = true) (hl : givenB ls P.inp P.w P.h = true) (hm : ∀ k, k < P.ss.length → monB (stAt P.ss k) = true)
  (hle : ∀ i, i < P.inp.toNat → belowB (P.w.toNat * P.h.toNat) (picAt ks i).px (picAt ls i).px = true) : belowB (P.w.toNat * P.h.toNat) (meanN P ks).px (meanN P ls).px = true := by
 obtain ⟨_, _, h3, h4, _⟩ := pipeB_true hP
 have lk := givenB_len hk
 have ll := givenB_len hl
 have h := im_mono hP hk hl hm hle P.ss.length (Nat.le_refl _) (P.inp + P.ss.length - 1) (by omega) (by omega)
 unfold imN at h
 unfold meanN
 rw [show ks.length + P.ss.length - 1 = (P.inp + P.ss.length - 1).toNat by omega, show ls.length + P.ss.length - 1 = (P.inp + P.ss.length - 1).toNat by omega]
 exact h
end
/-- The lesser of two images, in place by place. -/
def lesS (A B : PicN) : ImR := zipS A.w A.h A.px B.w B.h B.px 3
def lowN (ks ms : List PicN) : Nat → List PicN
 | 0 => []
 | k + 1 => lowN ks ms k ++ [resN (lesS (picAt ks k) (picAt ms k))]
theorem lowN_len (ks ms : List PicN) : ∀ k, (lowN ks ms k).length = k
 | 0 => rfl
 | k + 1 => by rw [lowN, List.length_append, lowN_len ks ms k]; rfl
theorem lowN_at (ks ms : List PicN) {i : Nat} : ∀ {k : Nat}, i < k → picAt (lowN ks ms k) i = resN (lesS (picAt ks i) (picAt ms i))
 | k + 1, h => by
  rw [lowN, picAt_snoc, lowN_len]
  by_cases e : i < k
  ·rw [if_pos e]; exact lowN_at ks ms e
  ·obtain rfl : i = k := by omega
   rw [if_neg e, if_pos rfl]
theorem les_ok {w h : Int} {A B : PicN} (hA : PicOk w h A) (hB : PicOk w h B) : lesS A B = { w := w, h := h, px := img w.toNat h.toNat (zipG w A.px B.px 3), err := 0 } := by
 obtain ⟨a1, a2, a3⟩ := hA
 obtain ⟨b1, b2, b3⟩ := hB
 unfold lesS zipS
 rw [a1, a2, b1, b2, if_pos a3, if_pos b3, if_pos (by simp), if_pos (by decide)]
theorem low_ok {P : PipeN} {ks ls : List PicN} (hP : pipeB P = true) (hk : givenB ks P.inp P.w P.h = true) (hl : givenB ls P.inp P.w P.h = true) :
  givenB (lowN ks ls P.inp.toNat) P.inp P.w P.h = true ∧ ∀ i, i < P.inp.toNat → belowB (P.w.toNat * P.h.toNat) (picAt (lowN ks ls P.inp.toNat) i).px (picAt ls i).px = true := by
 obtain ⟨hw, hh, h3, _, _⟩ := pipeB_true hP
 have lk := givenB_len hk
 have ll := givenB_len hl
 have n1 := lowN_len ks ls P.inp.toNat
 have ok : ∀ i, i < P.inp.toNat → PicOk P.w P.h (picAt (lowN ks ls P.inp.toNat) i) := fun i hi => by
  rw [lowN_at ks ls hi, les_ok (given_at hk (by omega)) (given_at hl (by omega))]
  exact PicOk.img hw hh _
 refine ⟨?_, fun i hi => ?_⟩
 ·unfold givenB
  rw [Bool.and_eq_true, List.all_eq_true]
  refine ⟨decide_eq_true (by omega), fun x hx => ?_⟩
  obtain ⟨i, hi2, rfl⟩ := List.mem_iff_getElem.1 hx
  have e : (lowN ks ls P.inp.toNat)[i] = picAt (lowN ks ls P.inp.toNat) i := by unfold picAt; rw [List.getElem?_eq_getElem hi2]; rfl
  obtain ⟨a1, a2, a3⟩ := ok i (by omega)
  rw [e, a1, a2, a3]; simp
 ·have A := given_at hk (show i < ks.length by omega)
  have B := given_at hl (show i < ls.length by omega)
  rw [lowN_at ks ls hi, les_ok A B]
  obtain ⟨pw, ew⟩ : ∃ p : Nat, P.w = p := ⟨P.w.toNat, by omega⟩
  obtain ⟨ph, eh⟩ : ∃ p : Nat, P.h = p := ⟨P.h.toNat, by omega⟩
  rw [ew, eh] at A B ⊢
  refine belowB_iff.2 fun t ht => ?_
  show px (zipI pw ph _ _ 3) t ≤ _
  rw [Int.toNat_natCast, Int.toNat_natCast] at ht
  rw [zipI_px (.inl rfl) (vld_true A.v).2.2.2 (vld_true B.v).2.2.2 ht]
  show min _ _ ≤ _
  omega
end Go.Proofs.YtekiemlniegddaaGreat
