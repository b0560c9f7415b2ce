/- Pipes of point operations and zips on turned images. Plain laws. -/
import Derived.Test.YtekiemlniegddaaGreatQH16
import Derived.Test.YtekiemlniegddaaGreatUTurnLaws
namespace Go.Proofs.YtekiemlniegddaaGreat
open Go Go.RowKit Go.Shelf
set_option linter.unusedVariables false
set_option linter.unusedSimpArgs false

def turnP (A : PicN) : PicN := resN (turnS A.w A.h A.px)
section
variable {pw ph : Nat}
theorem pxy_zip {xs ys : List Int} {how : Int} {x y : Nat} (hx : x < pw) (hy : y < ph) : pxy pw (zipI pw ph xs ys how) x y = pix (zipF how (pxy pw xs x y) (pxy pw ys x y)) := by
 unfold pxy zipI
 rw [px_imgE (idx_bound hx hy), cX_at y hx, cY_at y hx]
 unfold zipG
 rw [Int.natCast_add, Int.natCast_mul]
theorem zip_turn {xs ys : List Int} (hX : rng xs) (hY : rng ys) (how : Int) : zipI ph pw (turnL pw ph xs) (turnL pw ph ys) how = turnL pw ph (zipI pw ph xs ys how) := by
 refine pxy_ext (pw := ph) (ph := pw) (img_length _ _ _) (by rw [turnL_len, Nat.mul_comm]) fun x y hx hy => ?_
 rw [pxy_zip hx hy, pxy_turn hX hx hy, pxy_turn hY hx hy, pxy_turn (show rng (zipI pw ph xs ys how) from rng_img _ _ _) hx hy, pxy_zip hy (by omega)]
theorem pt_turn {p : PointN} {L : List Int} (hp : p.ok = true) (hL : rng L) : ptL ph pw p (turnL pw ph L) = turnL pw ph (ptL pw ph p L) := by
 refine pxy_ext (pw := ph) (ph := pw) ptL_len (by rw [turnL_len, Nat.mul_comm]) fun x y hx hy => ?_
 rw [pxy_pt hp hx hy, pxy_turn hL hx hy, pxy_turn ptL_rng hx hy, pxy_pt hp hy (by omega)]
theorem turnP_ok {A : PicN} (hA : PicOk pw ph A) : turnP A = ⟨ph, pw, turnL pw ph A.px⟩ := by
 obtain ⟨a1, a2, a3⟩ := hA
 unfold turnP
 rw [a1, a2, turnS_ok a3]; rfl
theorem turnP_pic {A : PicN} (hA : PicOk pw ph A) : PicOk ph pw (turnP A) := by
 rw [turnP_ok hA]
 obtain ⟨h1, h2, _, _⟩ := vld_true hA.v
 refine ⟨rfl, rfl, ?_⟩
 have := img_vld (w := (ph : Int)) (h := (pw : Int)) h2 h1 (turnG pw ph A.px)
 rw [Int.toNat_natCast, Int.toNat_natCast] at this
 exact this
theorem turnI_ok {w h : Int} {A : PicN} (hA : PicOk w h A) : ∃ xx, turnS A.w A.h A.px = { w := h, h := w, px := xx, err := 0 } ∧ (turnP A).px = xx := by
 obtain ⟨a1, a2, a3⟩ := hA
 refine ⟨_, by unfold turnS; rw [a1, a2, if_pos a3], ?_⟩
 unfold turnP turnS
 rw [a1, a2, if_pos a3]; rfl
theorem app_turn {s : StepN} {ms ns : List PicN} (hn : needB s = true) (ho : s.op = 1 ∨ s.op = 2) (hA : PicOk pw ph (picAt ms s.a.toNat)) (hB : s.op = 2 → PicOk pw ph (picAt ms s.b.toNat))
  (eA : picAt ns s.a.toNat = turnP (picAt ms s.a.toNat)) (eB : s.op = 2 → picAt ns s.b.toNat = turnP (picAt ms s.b.toNat)) : resN (appS s ns) = turnP (resN (appS s ms)) := by
 obtain ⟨h1, h2, _, _⟩ := vld_true hA.v
 rw [appS_ok hn hA hB, appS_ok hn (eA ▸ turnP_pic hA) (fun h => eB h ▸ turnP_pic (hB h))]
 have hR : PicOk (pw : Int) (ph : Int) (resN { w := pw, h := ph, px := img (pw : Int).toNat (ph : Int).toNat (stepG s (picAt ms s.a.toNat) (picAt ms s.b.toNat) pw ph), err := 0 }) := PicOk.img h1 h2 _
 rw [turnP_ok hR]
 show (⟨ph, pw, img (ph : Int).toNat (pw : Int).toNat _⟩ : PicN) = ⟨ph, pw, turnL pw ph (img (pw : Int).toNat (ph : Int).toNat _)⟩
 rw [Int.toNat_natCast, Int.toNat_natCast]
 congr 1
 have ra : rng (picAt ms s.a.toNat).px := (vld_true hA.v).2.2.2
 unfold stepG
 unfold needB at hn
 rw [eA, turnP_ok hA]
 rcases ho with h | h
 ·rw [if_pos h] at hn
  rw [if_pos h, if_pos h]
  exact pt_turn hn ra
 ·have h1' : ¬ s.op = 1 := by omega
  rw [if_neg h1', if_neg h1', if_pos h, if_pos h, eB h, turnP_ok (hB h)]
  exact zip_turn ra (vld_true (hB h).v).2.2.2 _
end
section
variable {P : PipeN} {ms ns : List PicN}
/-- The pipe for turned images. -/
def turnQ (P : PipeN) : PipeN := { P with w := P.h, h := P.w }
theorem turnQ_ok (hP : pipeB P = true) : pipeB (turnQ P) = true := by
 unfold pipeB sizeB at hP ⊢
 simp only [turnQ, Bool.and_eq_true] at hP ⊢
 exact ⟨⟨⟨hP.1.1.2, hP.1.1.1⟩, hP.1.2⟩, hP.2⟩
theorem im_turn (hP : pipeB P = true) (hg : givenB ms P.inp P.w P.h = true) (hl : ns.length = ms.length) (ho : ∀ k, k < P.ss.length → (stAt P.ss k).op = 1 ∨ (stAt P.ss k).op = 2)
  (he : ∀ i, i < P.inp.toNat → picAt ns i = turnP (picAt ms i)) :
  ∀ k, k ≤ P.ss.length → ∀ m : Int, 0 ≤ m → m < P.inp + k → imN (turnQ P) ns m = turnP (imN P ms m)
 | 0, _, m, h0, h1 => by
  have lk := givenB_len hg
  obtain ⟨t, rfl⟩ : ∃ t : Nat, m = (t : Int) := ⟨m.toNat, by omega⟩
  rw [imN_in (by show ns.length = P.inp.toNat; omega) (by show t < P.inp.toNat; omega), imN_in (by omega) (by omega)]
  exact he t (by omega)
 | k + 1, hk1, m, h0, h1 => by
  by_cases e : m < P.inp + k
  ·exact im_turn hP hg hl ho he k (by omega) m h0 e
  ·obtain ⟨⟨w1, w2⟩, ⟨g1, g2⟩, h3, _, hall⟩ := pipeB_true hP
   have lk := givenB_len hg
   obtain rfl : m = P.inp + k := by omega
   obtain ⟨n1, n2⟩ := stepsB_all hall (show k < P.ss.length by omega)
   obtain ⟨r1, r2⟩ := refB_true n2
   have hQ := turnQ_ok hP
   have e1 : imN (turnQ P) ns (P.inp + k) = resN (appS (stAt P.ss k) (afterN P.ss ns k)) := imN_step hQ (by show ns.length = P.inp.toNat; omega) (by show k < P.ss.length; omega)
   rw [e1, imN_step hP (by omega) (by omega)]
   obtain ⟨pw, ew⟩ : ∃ p : Nat, P.w = p := ⟨P.w.toNat, by omega⟩
   obtain ⟨ph, eh⟩ : ∃ p : Nat, P.h = p := ⟨P.h.toNat, by omega⟩
   have ok := fun (x : Int) (x0 : 0 ≤ x) (x1 : x < P.inp + k) => show PicOk (pw : Int) (ph : Int) (picAt (afterN P.ss ms k) x.toNat) by
    rw [← ew, ← eh, imN_op hP (by omega) (by omega) x0 x1]; exact imN_all hP hg k (by omega) _ x0 x1
   have eq := fun (x : Int) (x0 : 0 ≤ x) (x1 : x < P.inp + k) => show picAt (afterN P.ss ns k) x.toNat = turnP (picAt (afterN P.ss ms k) x.toNat) by
    have e2 : picAt (afterN P.ss ns k) x.toNat = imN (turnQ P) ns x := imN_op hQ (by show ns.length = P.inp.toNat; omega) (by show k < P.ss.length; omega) x0 x1
    rw [e2, imN_op hP (by omega) (by omega) x0 x1]; exact im_turn hP hg hl ho he k (by omega) x x0 x1
   refine app_turn n1 (ho k (by omega)) (ok _ r1.1 (by omega)) (fun h => ?_) (eq _ r1.1 (by omega)) (fun h => ?_)
   ·have := r2 h; exact ok _ this.1 (by omega)
   ·have := r2 h; exact eq _ this.1 (by omega)
theorem mean_turn (hP : pipeB P = true) (hg : givenB ms P.inp P.w P.h = true) (hl : ns.length = ms.length) (ho : ∀ k, k < P.ss.length → (stAt P.ss k).op = 1 ∨ (stAt P.ss k).op = 2)
  (he : ∀ i, i < P.inp.toNat → picAt ns i = turnP (picAt ms i)) : meanN (turnQ P) ns = turnP (meanN P ms) := by
 obtain ⟨_, _, h3, h4, _⟩ := pipeB_true hP
 have lk := givenB_len hg
 have h := im_turn hP hg hl ho he P.ss.length (Nat.le_refl _) (P.inp + P.ss.length - 1) (by omega) (by omega)
 unfold imN at h
 unfold meanN
 rw [show ns.length + (turnQ P).ss.length - 1 = (P.inp + P.ss.length - 1).toNat by show ns.length + P.ss.length - 1 = _; omega, show ms.length + P.ss.length - 1 = (P.inp + P.ss.length - 1).toNat by omega]
 exact h
theorem turned_at {i : Nat} (hi : i < ms.length) : picAt (ms.map turnP) i = turnP (picAt ms i) := by
 unfold picAt
 rw [List.getElem?_map, List.getElem?_eq_getElem hi]; rfl
theorem turned_given (hP : pipeB P = true) (hg : givenB ms P.inp P.w P.h = true) : givenB (ms.map turnP) P.inp P.h P.w = true := by
 obtain ⟨⟨w1, w2⟩, ⟨g1, g2⟩, h3, _, _⟩ := pipeB_true hP
 have lk := givenB_len hg
 obtain ⟨pw, ew⟩ : ∃ p : Nat, P.w = p := ⟨P.w.toNat, by omega⟩
 obtain ⟨ph, eh⟩ : ∃ p : Nat, P.h = p := ⟨P.h.toNat, by omega⟩
 unfold givenB
 rw [Bool.and_eq_true, List.all_eq_true]
 refine ⟨decide_eq_true (by rw [List.length_map]; omega), fun x hx => ?_⟩
 obtain ⟨y, hy, rfl⟩ := List.mem_map.1 hx
 obtain ⟨i, hi, rfl⟩ := List.mem_iff_getElem.1 hy
 have A := given_at hg hi
 have e : picAt ms i = ms[i] := by unfold picAt; rw [List.getElem?_eq_getElem hi]; rfl
 rw [e, ew, eh] at A
 obtain ⟨a1, a2, a3⟩ := turnP_pic A
 rw [a1, a2, a3, ew, eh]; simp
end
end Go.Proofs.YtekiemlniegddaaGreat
