/- ImageLinear returns true for every two images, kernel and border. No condition. -/
import Derived.Test.YtjglfeonoiljlaaMorLaws
import Derived.Test.YtjglfeonoiljlaaImgH
import Derived.Test.YtjglfeonoiljlaaImgY
import Derived.Test.YtjglfeonoiljlaaRowsIs
import Derived.Test.YtjglfeonoiljlaaSized
import Derived.Test.YtjglfeonoiljlaaAlive
import Derived.Deep.DeepCutAuto
import Derived.Test.YtjglfeonoiljlaaHead
import Derived.Test.YtjglfeonoiljlaaOpen
import Derived.Test.YtjglfeonoiljlaaOpenKS
namespace Go.Proofs.Ytjglfeonoiljlaa
open Go
set_option linter.unusedVariables false
set_option linter.unusedSimpArgs false

def turnL (pw ph : Nat) (L : List Int) : List Int := img ph pw (turnG pw ph L)
def flipL (pw ph : Nat) (L : List Int) : List Int := img pw ph (flipG pw L)
def ptL (pw ph : Nat) (p : PointN) (L : List Int) : List Int := img pw ph (pointG pw L p)
/-- The pixel at a place. -/
def pxy (pw : Nat) (L : List Int) (x y : Nat) : Int := px L ((y * pw + x : Nat) : Int)

variable {pw ph : Nat} {L : List Int}
theorem turnL_len : (turnL pw ph L).length = pw * ph := by unfold turnL; rw [img_length, Nat.mul_comm]
theorem flipL_len : (flipL pw ph L).length = pw * ph := img_length _ _ _
theorem ptL_len {p : PointN} : (ptL pw ph p L).length = pw * ph := img_length _ _ _
theorem turnL_rng : rng (turnL pw ph L) := rng_img _ _ _
theorem flipL_rng : rng (flipL pw ph L) := rng_img _ _ _
theorem ptL_rng {p : PointN} : rng (ptL pw ph p L) := rng_img _ _ _

theorem cX_at {x : Nat} (y : Nat) (hx : x < pw) : cX pw (y * pw + x) = (x : Int) := by unfold cX; rw [idx_mod y hx]
theorem cY_at {x : Nat} (y : Nat) (hx : x < pw) : cY pw (y * pw + x) = (y : Int) := by unfold cY; rw [idx_div y hx]

theorem pxy_turn (hL : rng L) {x y : Nat} (hx : x < ph) (hy : y < pw) : pxy ph (turnL pw ph L) x y = pxy pw L y (ph - 1 - x) := by
  unfold pxy turnL
  rw [px_img (fun i hi => px_bd hL _) (idx_bound hx hy), cX_at y hx, cY_at y hx]
  unfold turnG
  rw [Int.natCast_add, Int.natCast_mul, show ((ph - 1 - x : Nat) : Int) = (ph : Int) - 1 - x by omega]
theorem pxy_flip (hL : rng L) {x y : Nat} (hx : x < pw) (hy : y < ph) : pxy pw (flipL pw ph L) x y = pxy pw L (pw - 1 - x) y := by
  unfold pxy flipL
  rw [px_img (fun i hi => px_bd hL _) (idx_bound hx hy), cX_at y hx, cY_at y hx]
  unfold flipG
  rw [Int.natCast_add, Int.natCast_mul, show ((pw - 1 - x : Nat) : Int) = (pw : Int) - 1 - x by omega]
theorem pointF_rng {p : PointN} (hp : p.ok = true) (v : Int) : -2147483648 ≤ pointF p v ∧ pointF p v ≤ 2147483648 := by
  simp only [PointN.ok, Bool.and_eq_true, inR_true, decide_eq_true_eq] at hp
  unfold pointF clamp
  omega
theorem pxy_pt {p : PointN} (hp : p.ok = true) {x y : Nat} (hx : x < pw) (hy : y < ph) : pxy pw (ptL pw ph p L) x y = pointF p (pxy pw L x y) := by
  unfold pxy ptL
  rw [px_img (fun i hi => pointF_rng hp _) (idx_bound hx hy), cX_at y hx, cY_at y hx]
  unfold pointG
  rw [Int.natCast_add, Int.natCast_mul]
theorem pxy_ext {A B : List Int} (hA : A.length = pw * ph) (hB : B.length = pw * ph) (h : ∀ x y, x < pw → y < ph → pxy pw A x y = pxy pw B x y) : A = B := by
  refine px_ext (by rw [hA, hB]) fun i hi => ?_
  rw [hA] at hi
  have hpw : 0 < pw := by
    cases pw with
    | zero => simp at hi
    | succ k => omega
  have := h (i % pw) (i / pw) (Nat.mod_lt i hpw) (Nat.div_lt_of_lt_mul hi)
  unfold pxy at this
  rw [idx_split] at this
  exact this

theorem turn4 (hl : L.length = pw * ph) (hL : rng L) : turnL ph pw (turnL pw ph (turnL ph pw (turnL pw ph L))) = L := by
  refine pxy_ext (pw := pw) (ph := ph) (by rw [turnL_len, Nat.mul_comm]) hl fun x y hx hy => ?_
  rw [pxy_turn turnL_rng hx hy, pxy_turn turnL_rng hy (by omega), pxy_turn turnL_rng (by omega) (by omega), pxy_turn hL (by omega) (by omega)]
  rw [show pw - 1 - (pw - 1 - x) = x by omega, show ph - 1 - (ph - 1 - y) = y by omega]
theorem flip2 (hl : L.length = pw * ph) (hL : rng L) : flipL pw ph (flipL pw ph L) = L := by
  refine pxy_ext (pw := pw) (ph := ph) flipL_len hl fun x y hx hy => ?_
  rw [pxy_flip flipL_rng hx hy, pxy_flip hL (by omega) hy]
  rw [show pw - 1 - (pw - 1 - x) = x by omega]
theorem ftft (hl : L.length = pw * ph) (hL : rng L) : turnL ph pw (flipL ph pw (turnL pw ph (flipL pw ph L))) = L := by
  refine pxy_ext (pw := pw) (ph := ph) (by rw [turnL_len, Nat.mul_comm]) hl fun x y hx hy => ?_
  rw [pxy_turn flipL_rng hx hy, pxy_flip turnL_rng hy (by omega), pxy_turn flipL_rng (by omega) (by omega), pxy_flip hL (by omega) (by omega)]
  rw [show pw - 1 - (pw - 1 - x) = x by omega, show ph - 1 - (ph - 1 - y) = y by omega]
theorem point_through {p : PointN} (hp : p.ok = true) (hL : rng L) : ptL ph pw p (flipL ph pw (turnL pw ph L)) = flipL ph pw (turnL pw ph (ptL pw ph p L)) := by
  refine pxy_ext (pw := ph) (ph := pw) ptL_len flipL_len fun x y hx hy => ?_
  rw [pxy_pt hp hx hy, pxy_flip turnL_rng hx hy, pxy_flip turnL_rng hx hy, pxy_turn hL (by omega) hy, pxy_turn ptL_rng (by omega) hy, pxy_pt hp hy (by omega)]

theorem turnS_ok {xs : List Int} (hv : vld pw ph xs = true) : turnS pw ph xs = { w := ph, h := pw, px := turnL pw ph xs, err := 0 } := by unfold turnS; rw [if_pos hv]; rfl
theorem flipS_ok {xs : List Int} (hv : vld pw ph xs = true) : flipS pw ph xs = { w := pw, h := ph, px := flipL pw ph xs, err := 0 } := by unfold flipS; rw [if_pos hv]; rfl
theorem pointS_ok {xs : List Int} {p : PointN} (hv : vld pw ph xs = true) (hp : p.ok = true) : pointS pw ph xs p = { w := pw, h := ph, px := ptL pw ph p xs, err := 0 } := by unfold pointS; rw [if_pos hv, if_pos hp]; rfl

end Go.Proofs.Ytjglfeonoiljlaa
namespace Go.Proofs.Ytjglfeonoiljlaa
open Go
set_option linter.unusedVariables false
set_option linter.unusedSimpArgs false

theorem sumTo_add (f g : Nat → Int) : ∀ n, sumTo (fun i => f i + g i) n = sumTo f n + sumTo g n
  | 0 => rfl
  | n + 1 => by simp only [sumTo]; rw [sumTo_add f g n]; omega
theorem sumTo_mul (c : Int) (f : Nat → Int) : ∀ n, sumTo (fun i => c * f i) n = c * sumTo f n
  | 0 => by simp [sumTo]
  | n + 1 => by simp only [sumTo]; rw [sumTo_mul c f n, Int.mul_add]
theorem sumTo_mul_right (c : Int) (f : Nat → Int) (n : Nat) : sumTo f n * c = sumTo (fun i => f i * c) n := by
  rw [Int.mul_comm, ← sumTo_mul]
  exact sumTo_congr fun i _ => Int.mul_comm _ _
theorem sumTo_swap (f : Nat → Nat → Int) (n : Nat) : ∀ m, sumTo (fun i => sumTo (fun j => f i j) n) m = sumTo (fun j => sumTo (fun i => f i j) m) n
  | 0 => by simp only [sumTo]; exact (sumTo_zero (fun _ => rfl) n).symm
  | m + 1 => by simp only [sumTo]; rw [sumTo_swap f n m, ← sumTo_add]

theorem px_toNat (L : List Int) (q : Int) : px L q = px L ((q.toNat : Nat) : Int) := by unfold px; rw [Int.toNat_natCast]

theorem allIn_px {B : Int} {xs : List Int} (hB : 0 ≤ B) (h : allIn (-B) B xs = true) (q : Int) : -B ≤ px xs q ∧ px xs q ≤ B := px_bdB hB h q

/-- What Convolve returns where nothing is refused. -/
theorem convS_ok {pw ph kw kh : Nat} {xs taps : List Int} {bd : Int} (hv : vld pw ph xs = true) (hk : kernOk kw kh taps = true) (h1 : 1 ≤ bd) (h2 : bd ≤ 3) :
    convS pw ph xs kw kh taps bd = { w := pw, h := ph, px := img pw ph (convG bd pw ph xs kw kh taps), err := 0 } := by
  unfold convS
  rw [if_pos hv, if_pos hk, if_pos (decide_eq_true ⟨h1, h2⟩)]
  rfl
theorem zipS_ok {pw ph : Nat} {xs ys : List Int} {how : Int} (hx : vld pw ph xs = true) (hy : vld pw ph ys = true) (h1 : 1 ≤ how) (h2 : how ≤ 6) :
    zipS pw ph xs pw ph ys how = { w := pw, h := ph, px := img pw ph (zipG pw xs ys how), err := 0 } := by
  unfold zipS
  rw [if_pos hx, if_pos hy, if_pos (decide_eq_true ⟨rfl, rfl⟩), if_pos (decide_eq_true ⟨h1, h2⟩)]
  rfl

variable {pw ph kw kh : Nat} {xs ys zs taps : List Int} {bd : Int}

theorem beyF_bdB {B : Int} (hB : 0 ≤ B) (h : allIn (-B) B xs = true) (bd iw ih x y : Int) : -B ≤ beyF bd iw ih xs x y ∧ beyF bd iw ih xs x y ≤ B := by
  unfold beyF
  split
  · split
    · exact px_bdB hB h _
    · omega
  · split <;> exact px_bdB hB h _
theorem convG_bdB {B C : Int} (hB : 0 ≤ B) (hC : 0 ≤ C) (h : allIn (-B) B xs = true) (ht : allIn (-C) C taps = true) (hk : kw * kh ≤ 25) (iw ih x y : Int) : -(25 * (C * B)) ≤ convG bd iw ih xs kw kh taps x y ∧ convG bd iw ih xs kw kh taps x y ≤ 25 * (C * B) := by
  have hCB : 0 ≤ C * B := Int.mul_nonneg hC hB
  have h1 := sumTo_bd (f := convT bd iw ih xs kw kh taps x y) (B := C * B) (k := kw * kh) fun t _ => by
    have h2 := px_bdB hC ht (t : Int)
    have h3 := beyF_bdB hB h bd iw ih (x + ((kw / 2 : Nat) : Int) - ((t % kw : Nat) : Int)) (y + ((kh / 2 : Nat) : Int) - ((t / kw : Nat) : Int))
    exact mul_bd h2.1 h2.2 h3.1 h3.2 hC hB
  have h4 : C * B * ((kw * kh : Nat) : Int) ≤ C * B * 25 := Int.mul_le_mul_of_nonneg_left (by omega) hCB
  unfold convG
  rw [Int.mul_comm 25 (C * B)]
  omega

/-! ### Linear -/

theorem beyF_add (h : ∀ q, px zs q = px xs q + px ys q) (bd iw ih x y : Int) : beyF bd iw ih zs x y = beyF bd iw ih xs x y + beyF bd iw ih ys x y := by
  unfold beyF
  split
  · split
    · exact h _
    · rfl
  · split <;> exact h _
theorem convG_add (h : ∀ q, px zs q = px xs q + px ys q) (bd iw ih x y : Int) : convG bd iw ih zs kw kh taps x y = convG bd iw ih xs kw kh taps x y + convG bd iw ih ys kw kh taps x y := by
  unfold convG
  rw [← sumTo_add]
  refine sumTo_congr fun t _ => ?_
  unfold convT
  rw [beyF_add h, Int.mul_add]

theorem zip_sum_px (hx : allIn (-1000) 1000 xs = true) (hy : allIn (-1000) 1000 ys = true) (lx : xs.length = pw * ph) (ly : ys.length = pw * ph) (q : Int) : px (img pw ph (zipG pw xs ys 1)) q = px xs q + px ys q := by
  rw [px_toNat, px_toNat xs, px_toNat ys]
  obtain ⟨i, hi⟩ : ∃ i, q.toNat = i := ⟨_, rfl⟩
  rw [hi]
  by_cases hlt : i < pw * ph
  · have key : ∀ j, zipG pw xs ys 1 (cX pw j) (cY pw j) = px xs j + px ys j := fun j => by
      unfold zipG zipF; rw [if_pos rfl, cXY]
    rw [px_img (fun j _ => by
      rw [key]
      have h1 := px_bdB (B := 1000) (by decide) hx (j : Int)
      have h2 := px_bdB (B := 1000) (by decide) hy (j : Int)
      omega) hlt, key]
  · rw [px_out (by rw [img_length]; omega), px_out (by omega), px_out (by omega)]
    rfl

/-- The convolution of the sum is the sum of the convolutions. -/
theorem conv_linear (hx : allIn (-1000) 1000 xs = true) (hy : allIn (-1000) 1000 ys = true) (ht : allIn (-1000) 1000 taps = true) (lx : xs.length = pw * ph) (ly : ys.length = pw * ph) (hk : kw * kh ≤ 25) :
    img pw ph (zipG pw (img pw ph (convG bd pw ph xs kw kh taps)) (img pw ph (convG bd pw ph ys kw kh taps)) 1) = img pw ph (convG bd pw ph (img pw ph (zipG pw xs ys 1)) kw kh taps) := by
  have bx := fun x y => convG_bdB (bd := bd) (B := 1000) (C := 1000) (by decide) (by decide) hx ht hk pw ph x y
  have by_ := fun x y => convG_bdB (bd := bd) (B := 1000) (C := 1000) (by decide) (by decide) hy ht hk pw ph x y
  refine px_ext (by rw [img_length, img_length]) fun i hi => ?_
  rw [img_length] at hi
  have e1 := fun (j : Nat) (hj : j < pw * ph) => px_img (pw := pw) (ph := ph) (g := convG bd pw ph xs kw kh taps) (fun j _ => by have := bx (cX pw j) (cY pw j); omega) hj
  have e2 := fun (j : Nat) (hj : j < pw * ph) => px_img (pw := pw) (ph := ph) (g := convG bd pw ph ys kw kh taps) (fun j _ => by have := by_ (cX pw j) (cY pw j); omega) hj
  have key : ∀ j, j < pw * ph → zipG pw (img pw ph (convG bd pw ph xs kw kh taps)) (img pw ph (convG bd pw ph ys kw kh taps)) 1 (cX pw j) (cY pw j) = convG bd pw ph xs kw kh taps (cX pw j) (cY pw j) + convG bd pw ph ys kw kh taps (cX pw j) (cY pw j) := fun j hj => by
    unfold zipG zipF
    rw [if_pos rfl, cXY, e1 j hj, e2 j hj]
  have hadd := fun x y => convG_add (kw := kw) (kh := kh) (taps := taps) (zip_sum_px hx hy lx ly) bd pw ph x y
  rw [px_img (fun j hj => by rw [key j hj]; have := bx (cX pw j) (cY pw j); have := by_ (cX pw j) (cY pw j); omega) hi, key i hi, px_img (fun j hj => by rw [hadd]; have := bx (cX pw j) (cY pw j); have := by_ (cX pw j) (cY pw j); omega) hi, hadd]

/-- A kernel with the one factor 1 changes nothing. -/
theorem conv_one (hx : rng xs) (lx : xs.length = pw * ph) : img pw ph (convG bd pw ph xs 1 1 [1]) = xs := by
  have key : ∀ i, i < pw * ph → convG bd pw ph xs 1 1 [1] (cX pw i) (cY pw i) = px xs i := fun i hi => by
    have hpw : 0 < pw := Nat.pos_of_ne_zero (by rintro rfl; simp at hi)
    obtain ⟨x1, x2⟩ := cX_bd (pw := pw) (i := i) (by omega)
    obtain ⟨y1, y2⟩ := cY_bd (pw := pw) (ph := ph) (i := i) hi
    unfold convG
    show 0 + convT bd pw ph xs 1 1 [1] (cX pw i) (cY pw i) 0 = _
    unfold convT
    rw [show cX pw i + ((1 / 2 : Nat) : Int) - ((0 % 1 : Nat) : Int) = cX pw i by simp, show cY pw i + ((1 / 2 : Nat) : Int) - ((0 / 1 : Nat) : Int) = cY pw i by simp]
    rw [beyF_in (by simp only [Bool.and_eq_true, inR_true]; omega), cXY]
    show 0 + 1 * _ = _
    omega
  refine px_ext (by rw [img_length, lx]) fun i hi => ?_
  rw [img_length] at hi
  rw [px_img (fun j hj => by rw [key j hj]; exact px_bd hx _) hi, key i hi]

/-! ### Composed -/

theorem kpos_comm (aw bw s u : Nat) : kpos aw bw s u = kpos bw aw u s := by
  unfold kpos
  rw [Nat.add_comm (s / aw), Nat.add_comm aw bw]
  omega

theorem conF_sum {aw ah bw bh : Nat} (ha : 0 < aw) (hb : 0 < bw) (hbh : 0 < bh) (a b : Nat → Int) (p : Nat) :
    conF aw ah bw bh a b p = sumTo (fun s => sumTo (fun u => if kpos aw bw s u = p then a s * b u else 0) (bw * bh)) (aw * ah) := by
  unfold conF
  exact sumTo_congr fun s _ => (con_term ha hb hbh a b p s).symm
theorem conF_comm {aw ah bw bh : Nat} (ha : 0 < aw) (hah : 0 < ah) (hb : 0 < bw) (hbh : 0 < bh) (a b : Nat → Int) (p : Nat) : conF aw ah bw bh a b p = conF bw bh aw ah b a p := by
  rw [conF_sum ha hb hbh, conF_sum hb ha hah, sumTo_swap]
  refine sumTo_congr fun u _ => sumTo_congr fun s _ => ?_
  rw [kpos_comm, Int.mul_comm]
theorem compL_comm {aw ah bw bh : Nat} (ha : 0 < aw) (hah : 0 < ah) (hb : 0 < bw) (hbh : 0 < bh) (A B : List Int) : compL bw bh aw ah B A = compL aw ah bw bh A B := by
  unfold compL
  rw [Nat.add_comm bw aw, Nat.add_comm bh ah]
  refine List.map_congr_left fun p _ => ?_
  unfold compT
  rw [conF_comm ha hah hb hbh]

theorem beyF_per {iw ih : Int} (x y c d : Int) : beyF 3 iw ih xs (x % iw + c) (y % ih + d) = beyF 3 iw ih xs (x + c) (y + d) := by
  rw [beyF_3, beyF_3, Int.emod_add_emod, Int.emod_add_emod]
theorem convG_per {iw ih : Int} (x y : Int) : convG 3 iw ih xs kw kh taps (x % iw) (y % ih) = convG 3 iw ih xs kw kh taps x y := by
  unfold convG
  refine sumTo_congr fun t _ => ?_
  unfold convT
  rw [Int.add_sub_assoc, Int.add_sub_assoc, beyF_per, Int.add_sub_assoc, Int.add_sub_assoc]
/-- A convolved image beyond its border is the convolution there. -/
theorem beyF_conv (hpw : 0 < pw) (hph : 0 < ph) (hb : ∀ x y, -2147483648 ≤ convG 3 pw ph xs kw kh taps x y ∧ convG 3 pw ph xs kw kh taps x y ≤ 2147483648) (x y : Int) :
    beyF 3 pw ph (img pw ph (convG 3 pw ph xs kw kh taps)) x y = convG 3 pw ph xs kw kh taps x y := by
  rw [beyF_3, ← convG_per x y]
  have x1 := Int.emod_nonneg x (show (pw : Int) ≠ 0 by omega)
  have x2 := Int.emod_lt_of_pos x (show (0 : Int) < pw by omega)
  have y1 := Int.emod_nonneg y (show (ph : Int) ≠ 0 by omega)
  have y2 := Int.emod_lt_of_pos y (show (0 : Int) < ph by omega)
  obtain ⟨u, hu⟩ : ∃ u : Nat, x % (pw : Int) = u := ⟨(x % (pw : Int)).toNat, by omega⟩
  obtain ⟨v, hv⟩ : ∃ v : Nat, y % (ph : Int) = v := ⟨(y % (ph : Int)).toNat, by omega⟩
  rw [hu] at x1 x2 ⊢
  rw [hv] at y1 y2 ⊢
  rw [← Int.natCast_mul, ← Int.natCast_add, px_img (fun j _ => hb _ _) (idx_bound (by omega) (by omega)), cX_at v (by omega), cY_at v (by omega)]

/-- A sum over the table of a composition. -/
theorem sum_table {aw ah bw bh : Nat} (ha : 0 < aw) (hb : 0 < bw) (hbh : 0 < bh) (a b M : Nat → Int) :
    sumTo (fun p => conF aw ah bw bh a b p * M p) ((aw + bw - 1) * (ah + bh - 1)) = sumTo (fun s => sumTo (fun u => a s * b u * M (kpos aw bw s u)) (bw * bh)) (aw * ah) := by
  have e1 : ∀ p, conF aw ah bw bh a b p * M p = sumTo (fun s => sumTo (fun u => if kpos aw bw s u = p then a s * b u * M p else 0) (bw * bh)) (aw * ah) := fun p => by
    rw [conF_sum ha hb hbh, sumTo_mul_right]
    refine sumTo_congr fun s _ => ?_
    rw [sumTo_mul_right]
    refine sumTo_congr fun u _ => ?_
    split
    · rfl
    · exact Int.zero_mul _
  rw [sumTo_congr fun p _ => e1 p, sumTo_swap]
  refine sumTo_congr fun s hs => ?_
  rw [sumTo_swap]
  refine sumTo_congr fun u hu => ?_
  rw [sumTo_one (u := kpos aw bw s u) fun p _ hne => if_neg fun h => hne h.symm, if_pos (kpos_lt hs hu), if_pos rfl]

theorem odd_half {a b : Nat} (ha : a = 1 ∨ a = 3 ∨ a = 5) (hb : b = 1 ∨ b = 3 ∨ b = 5) : (a + b - 1) / 2 = a / 2 + b / 2 := by omega

section
variable {aw ah bw bh : Nat} {A B : List Int}
/-- The convolution with a composition, before any range, is both convolutions, one after the other. -/
theorem convG_comp (hpw : 0 < pw) (hph : 0 < ph) (haw : aw = 1 ∨ aw = 3 ∨ aw = 5) (hah : ah = 1 ∨ ah = 3 ∨ ah = 5) (hbw : bw = 1 ∨ bw = 3 ∨ bw = 5) (hbh : bh = 1 ∨ bh = 3 ∨ bh = 5)
    (hb : ∀ x y, -2147483648 ≤ convG 3 pw ph xs aw ah A x y ∧ convG 3 pw ph xs aw ah A x y ≤ 2147483648) (K : List Int) (hK : ∀ p, p < (aw + bw - 1) * (ah + bh - 1) → px K p = conF aw ah bw bh (fun t => px A t) (fun t => px B t) p) (x y : Int) :
    convG 3 pw ph (img pw ph (convG 3 pw ph xs aw ah A)) bw bh B x y = convG 3 pw ph xs (aw + bw - 1) (ah + bh - 1) K x y := by
  have r : convG 3 pw ph xs (aw + bw - 1) (ah + bh - 1) K x y = sumTo (fun p => conF aw ah bw bh (fun t => px A t) (fun t => px B t) p * beyF 3 pw ph xs (x + (((aw + bw - 1) / 2 : Nat) : Int) - ((p % (aw + bw - 1) : Nat) : Int)) (y + (((ah + bh - 1) / 2 : Nat) : Int) - ((p / (aw + bw - 1) : Nat) : Int))) ((aw + bw - 1) * (ah + bh - 1)) := by
    unfold convG
    refine sumTo_congr fun p hp => ?_
    unfold convT
    rw [hK p hp]
  rw [r, sum_table (by omega) (by omega) (by omega) _ _ (fun p => beyF 3 pw ph xs (x + (((aw + bw - 1) / 2 : Nat) : Int) - ((p % (aw + bw - 1) : Nat) : Int)) (y + (((ah + bh - 1) / 2 : Nat) : Int) - ((p / (aw + bw - 1) : Nat) : Int))), sumTo_swap]
  show sumTo (convT 3 pw ph (img pw ph (convG 3 pw ph xs aw ah A)) bw bh B x y) (bw * bh) = _
  refine sumTo_congr fun u hu => ?_
  show px B u * beyF 3 pw ph (img pw ph (convG 3 pw ph xs aw ah A)) _ _ = _
  rw [beyF_conv hpw hph hb]
  show px B u * sumTo (convT 3 pw ph xs aw ah A _ _) (aw * ah) = _
  rw [← sumTo_mul]
  refine sumTo_congr fun s hs => ?_
  have m1 := Nat.mod_lt s (show 0 < aw by omega)
  have m2 := Nat.mod_lt u (show 0 < bw by omega)
  have e1 := idx_mod (w := aw + bw - 1) (x := s % aw + u % bw) (s / aw + u / bw) (by omega)
  have e2 := idx_div (w := aw + bw - 1) (x := s % aw + u % bw) (s / aw + u / bw) (by omega)
  have hkp : kpos aw bw s u = (s / aw + u / bw) * (aw + bw - 1) + (s % aw + u % bw) := by unfold kpos; rw [Nat.add_assoc]
  show px B u * (px A s * beyF 3 pw ph xs _ _) = px A s * px B u * beyF 3 pw ph xs _ _
  rw [hkp, e1, e2, odd_half haw hbw, odd_half hah hbh, ← Int.mul_assoc, Int.mul_comm (px B u)]
  congr 2 <;> omega

theorem conF_bd (hA : allIn (-50) 50 A = true) (hB : allIn (-50) 50 B = true) (hk : aw * ah ≤ 25) (p : Nat) : -65536 ≤ conF aw ah bw bh (fun t => px A t) (fun t => px B t) p ∧ conF aw ah bw bh (fun t => px A t) (fun t => px B t) p ≤ 65536 := by
  have h1 := sumTo_bd (f := conTerm aw bw bh (fun t => px A t) (fun t => px B t) p) (B := 2500) (k := aw * ah) fun s _ => by
    unfold conTerm
    split
    · have h1 := px_bdB (B := 50) (by decide) hA (s : Int)
      have h2 := px_bdB (B := 50) (by decide) hB (((p / (aw + bw - 1) - s / aw) * bw + (p % (aw + bw - 1) - s % aw) : Nat) : Int)
      have h3 := mul_bd h1.1 h1.2 h2.1 h2.2 (by decide) (by decide)
      exact ⟨by have := h3.1; simpa using this, by have := h3.2; simpa using this⟩
    · omega
  unfold conF
  omega

theorem compL_len : (compL aw ah bw bh A B).length = (aw + bw - 1) * (ah + bh - 1) := by simp [compL]
theorem compL_px {p : Nat} (hp : p < (aw + bw - 1) * (ah + bh - 1)) : px (compL aw ah bw bh A B) p = compT aw ah bw bh A B p := px_map_range _ hp
theorem kernOk_comp (haw : aw = 1 ∨ aw = 3 ∨ aw = 5) (hah : ah = 1 ∨ ah = 3 ∨ ah = 5) (hbw : bw = 1 ∨ bw = 3 ∨ bw = 5) (hbh : bh = 1 ∨ bh = 3 ∨ bh = 5) (h1 : aw + bw - 1 ≤ 5) (h2 : ah + bh - 1 ≤ 5) :
    kernOk ((aw + bw - 1 : Nat) : Int) ((ah + bh - 1 : Nat) : Int) (compL aw ah bw bh A B) = true := by
  have hr : allIn (-65536) 65536 (compL aw ah bw bh A B) = true := by
    unfold compL
    simp only [allIn, List.all_eq_true, List.mem_map]
    rintro x ⟨p, _, rfl⟩
    have := clamp_le (n := conF aw ah bw bh (fun t => px A t) (fun t => px B t) p) (lo := -65536) (hi := 65536) (by decide)
    exact inR_true.2 this
  have a1 : aw + bw - 1 = 1 ∨ aw + bw - 1 = 3 ∨ aw + bw - 1 = 5 := by omega
  have a2 : ah + bh - 1 = 1 ∨ ah + bh - 1 = 3 ∨ ah + bh - 1 = 5 := by omega
  unfold kernOk sidesB
  rw [hr, compL_len]
  rcases a1 with h | h | h <;> rcases a2 with h' | h' | h' <;> rw [h, h'] <;> rfl

/-- Convolving with a kernel and then with another one is convolving with their composition. -/
theorem conv_composed (hpw : 0 < pw) (hph : 0 < ph) (haw : aw = 1 ∨ aw = 3 ∨ aw = 5) (hah : ah = 1 ∨ ah = 3 ∨ ah = 5) (hbw : bw = 1 ∨ bw = 3 ∨ bw = 5) (hbh : bh = 1 ∨ bh = 3 ∨ bh = 5) (h1 : aw + bw - 1 ≤ 5) (h2 : ah + bh - 1 ≤ 5)
    (hx : allIn (-1000) 1000 xs = true) (hA : allIn (-50) 50 A = true) (hB : allIn (-50) 50 B = true) :
    img pw ph (convG 3 pw ph (img pw ph (convG 3 pw ph xs aw ah A)) bw bh B) = img pw ph (convG 3 pw ph xs (aw + bw - 1) (ah + bh - 1) (compL aw ah bw bh A B)) := by
  have hk : aw * ah ≤ 25 := by have := Nat.mul_le_mul (show aw ≤ 5 by omega) (show ah ≤ 5 by omega); omega
  have ba := fun x y => convG_bdB (bd := 3) (B := 1000) (C := 50) (by decide) (by decide) hx hA hk pw ph x y
  have key := fun x y => convG_comp (xs := xs) (A := A) (B := B) hpw hph haw hah hbw hbh (fun x y => ⟨by have := (ba x y).1; omega, by have := (ba x y).2; omega⟩) (compL aw ah bw bh A B) (fun p hp => by
    rw [compL_px hp]
    have := conF_bd (bw := bw) (bh := bh) hA hB hk p
    unfold compT clamp
    omega) x y
  refine img_congr fun x y => by rw [key]
end

end Go.Proofs.Ytjglfeonoiljlaa
namespace Go.Proofs.Ytjglfeonoiljlaa
open Go Go.RowKit Go.Shelf
set_option linter.unusedVariables false
set_option linter.unusedSimpArgs false

theorem allIn_iff {lo hi : Int} {xs : List Int} : allIn lo hi xs = true ↔ ∀ j : Nat, j < xs.length → lo ≤ px xs j ∧ px xs j ≤ hi := by
  unfold allIn
  rw [List.all_eq_true]
  constructor
  · intro h j hj
    have := h xs[j] (List.getElem_mem hj)
    simp only [Bool.and_eq_true, decide_eq_true_eq] at this
    rw [px_nat, List.getElem?_eq_getElem hj]
    exact this
  · intro h x hx
    obtain ⟨j, hj, rfl⟩ := List.getElem_of_mem hx
    have := h j hj
    rw [px_nat, List.getElem?_eq_getElem hj] at this
    simp only [Bool.and_eq_true, decide_eq_true_eq]
    exact this

set_option maxRecDepth 100000 in
set_option maxHeartbeats 4000000 in
theorem modest_any (iw ih : Int) (a : Option Addr) (c n : Nat) (xs : List Int) (hn : Hid (xs.length = n)) (most : Int) (hm0 : 0 ≤ most) (hm1 : most ≤ 1000) (r : Bool) (hres : Hid (allIn (-most) most xs = r)) (h0 : 0 < n) (w : World) (hm : n ≤ 9223372036854775807) (hr : Rd w.heap.size w a xs) :
    Calls Try.prog 69 #[imv iw ih a n c, .int .i64 most] w fun e w' => e = .returned (.bool r) ∧ Below w.heap.size w w' := by
  obtain ⟨ba, oa, rfl, hba, hca⟩ := rd_at hr hn.out h0
  have hcaH := Lib.hid hca
  clear hca
  have hB0 : Below w.heap.size w (w.alloc (.cells #[.int .i64 iw, .int .i64 ih, .slice (some ⟨ba, oa, none⟩) n c] 24)) := below_al (Below.refl _ _) _
  have ka := Blk.new w 24 #[.int .i64 iw, .int .i64 ih, .slice (some ⟨ba, oa, none⟩) n c]
  obtain ⟨W, hW⟩ : ∃ W, w.alloc (.cells #[.int .i64 iw, .int .i64 ih, .slice (some ⟨ba, oa, none⟩) n c] 24) = W := ⟨_, rfl⟩
  rw [hW] at hB0 ka
  have ma0 := ka.cell (i := 0) rfl
  have ma1 := ka.cell (i := 1) rfl
  have ma2 := ka.cell (i := 2) rfl
  go_enter Try.func69, Try.ntmps69
  go_wp2_with fail
  clear hW
  go_loop [5] (fun i => ∃ k : Nat, k ≤ n ∧ i = .int .i64 (k : Int) ∧ Hid (∀ j : Nat, j < k → -most ≤ px xs j ∧ px xs j ≤ most)) (fun i => n - (intOf i).toNat)
  case atStart => exact ⟨0, Nat.zero_le _, rfl, Lib.hid (fun j hj => by omega)⟩
  case round =>
    obtain ⟨k, hkn, rfl, hle⟩ := hrel
    by_cases hk : k < n
    · have cx := (hB0.cell (p := ⟨ba, oa + k, none⟩) hba).trans (hcaH.out k hk)
      obtain ⟨xv, hxv⟩ : ∃ v, px xs (k : Int) = v := ⟨_, rfl⟩
      have hlow : xv < -most → r = false := fun h => by
        rw [← hres.out]
        cases hb : allIn (-most) most xs with
        | false => rfl
        | true => have := (allIn_iff.1 hb) k (by rw [hn.out]; exact hk); rw [hxv] at this; omega
      have hhigh : most < xv → r = false := fun h => by
        rw [← hres.out]
        cases hb : allIn (-most) most xs with
        | false => rfl
        | true => have := (allIn_iff.1 hb) k (by rw [hn.out]; exact hk); rw [hxv] at this; omega
      have hle2 : ¬ xv < -most → ¬ most < xv → Hid (∀ j : Nat, j < k + 1 → -most ≤ px xs j ∧ px xs j ≤ most) := fun h1 h2 => Lib.hid (fun j hj => by
        by_cases hjk : j = k
        · subst hjk; rw [hxv]; omega
        · exact hle.out j (by omega))
      rw [hxv] at cx
      clear hxv
      by_cases h1 : xv < -most
      · have e1 : decide (xv < -most) = true := decide_eq_true h1
        obtain rfl : r = false := hlow h1
        clear hlow hhigh hle2 h1
        go_wp2_with fail
        go_ret
        exact ⟨rfl, hB0⟩
      · have e1 : decide (xv < -most) = false := decide_eq_false h1
        by_cases h2 : most < xv
        · have e2 : decide (most < xv) = true := decide_eq_true h2
          obtain rfl : r = false := hhigh h2
          clear hlow hhigh hle2 h1 h2
          go_wp2_with fail
          go_ret
          exact ⟨rfl, hB0⟩
        · have e2 : decide (most < xv) = false := decide_eq_false h2
          have hle3 := hle2 h1 h2
          clear hlow hhigh hle2 h1 h2
          go_wp2_with fail
          go_round
          case rel => exact ⟨k + 1, by omega, by go_num, hle3⟩
          case measure => simp [intOf]; omega
    · have hkk : n = k := by omega
      subst hkk
      obtain rfl : r = true := by rw [← hres.out]; exact allIn_iff.2 (by rw [hn.out]; exact hle.out)
      go_wp2_with fail
      go_ret
      exact ⟨rfl, hB0⟩

set_option maxRecDepth 100000 in
set_option maxHeartbeats 4000000 in
theorem small_any (iw ih : Int) (a : Option Addr) (c n : Nat) (xs : List Int) (hn : Hid (xs.length = n)) (most : Int) (hm0 : 0 ≤ most) (hm1 : most ≤ 1000) (r : Bool) (hres : Hid (allIn (-most) most xs = r)) (h0 : 0 < n) (w : World) (hm : n ≤ 9223372036854775807) (hr : Rd w.heap.size w a xs) :
    Calls Try.prog 70 #[imv iw ih a n c, .int .i64 most] w fun e w' => e = .returned (.bool r) ∧ Below w.heap.size w w' := by
  obtain ⟨ba, oa, rfl, hba, hca⟩ := rd_at hr hn.out h0
  have hcaH := Lib.hid hca
  clear hca
  have hB0 : Below w.heap.size w (w.alloc (.cells #[.int .i64 iw, .int .i64 ih, .slice (some ⟨ba, oa, none⟩) n c] 64)) := below_al (Below.refl _ _) _
  have ka := Blk.new w 64 #[.int .i64 iw, .int .i64 ih, .slice (some ⟨ba, oa, none⟩) n c]
  obtain ⟨W, hW⟩ : ∃ W, w.alloc (.cells #[.int .i64 iw, .int .i64 ih, .slice (some ⟨ba, oa, none⟩) n c] 64) = W := ⟨_, rfl⟩
  rw [hW] at hB0 ka
  have ma0 := ka.cell (i := 0) rfl
  have ma1 := ka.cell (i := 1) rfl
  have ma2 := ka.cell (i := 2) rfl
  go_enter Try.func70, Try.ntmps70
  go_wp2_with fail
  clear hW
  go_loop [5] (fun i => ∃ k : Nat, k ≤ n ∧ i = .int .i64 (k : Int) ∧ Hid (∀ j : Nat, j < k → -most ≤ px xs j ∧ px xs j ≤ most)) (fun i => n - (intOf i).toNat)
  case atStart => exact ⟨0, Nat.zero_le _, rfl, Lib.hid (fun j hj => by omega)⟩
  case round =>
    obtain ⟨k, hkn, rfl, hle⟩ := hrel
    by_cases hk : k < n
    · have cx := (hB0.cell (p := ⟨ba, oa + k, none⟩) hba).trans (hcaH.out k hk)
      obtain ⟨xv, hxv⟩ : ∃ v, px xs (k : Int) = v := ⟨_, rfl⟩
      have hlow : xv < -most → r = false := fun h => by
        rw [← hres.out]
        cases hb : allIn (-most) most xs with
        | false => rfl
        | true => have := (allIn_iff.1 hb) k (by rw [hn.out]; exact hk); rw [hxv] at this; omega
      have hhigh : most < xv → r = false := fun h => by
        rw [← hres.out]
        cases hb : allIn (-most) most xs with
        | false => rfl
        | true => have := (allIn_iff.1 hb) k (by rw [hn.out]; exact hk); rw [hxv] at this; omega
      have hle2 : ¬ xv < -most → ¬ most < xv → Hid (∀ j : Nat, j < k + 1 → -most ≤ px xs j ∧ px xs j ≤ most) := fun h1 h2 => Lib.hid (fun j hj => by
        by_cases hjk : j = k
        · subst hjk; rw [hxv]; omega
        · exact hle.out j (by omega))
      rw [hxv] at cx
      clear hxv
      by_cases h1 : xv < -most
      · have e1 : decide (xv < -most) = true := decide_eq_true h1
        obtain rfl : r = false := hlow h1
        clear hlow hhigh hle2 h1
        go_wp2_with fail
        go_ret
        exact ⟨rfl, hB0⟩
      · have e1 : decide (xv < -most) = false := decide_eq_false h1
        by_cases h2 : most < xv
        · have e2 : decide (most < xv) = true := decide_eq_true h2
          obtain rfl : r = false := hhigh h2
          clear hlow hhigh hle2 h1 h2
          go_wp2_with fail
          go_ret
          exact ⟨rfl, hB0⟩
        · have e2 : decide (most < xv) = false := decide_eq_false h2
          have hle3 := hle2 h1 h2
          clear hlow hhigh hle2 h1 h2
          go_wp2_with fail
          go_round
          case rel => exact ⟨k + 1, by omega, by go_num, hle3⟩
          case measure => simp [intOf]; omega
    · have hkk : n = k := by omega
      subst hkk
      obtain rfl : r = true := by rw [← hres.out]; exact allIn_iff.2 (by rw [hn.out]; exact hle.out)
      go_wp2_with fail
      go_ret
      exact ⟨rfl, hB0⟩

end Go.Proofs.Ytjglfeonoiljlaa
namespace Go.Proofs.Ytjglfeonoiljlaa
open Go Go.RowKit Go.Shelf
set_option linter.unusedVariables false
set_option linter.unusedSimpArgs false

theorem rd_litH {W : World} {b : Nat} {A : Array Value} {xs : List Int} (k : Blk W b 3 A) (h : A.toList = xs.map (Value.int .i64)) (i : Nat) (hi : i < xs.length) : W.cell? ⟨b, 0 + i, none⟩ = some (.int .i64 (xs[i]?.getD 0)) := rd_litG k h i hi

set_option maxRecDepth 100000 in
set_option maxHeartbeats 32000000 in
theorem law_linear (iw ih : Int) (a : Option Addr) (c n : Nat) (xs : List Int) (hn : Hid (xs.length = n)) (jw jh : Int) (a' : Option Addr) (c' m : Nat) (ys : List Int) (hn' : Hid (ys.length = m)) (kw kh : Int) (ak : Option Addr) (ck nk : Nat) (taps : List Int) (hkn : Hid (taps.length = nk)) (bd : Int) (hd1 : 0 ≤ bd) (hd2 : bd ≤ 255) (w : World)
    (hm : n ≤ 9223372036854775807) (hr : Rd w.heap.size w a xs) (hm' : m ≤ 9223372036854775807) (hr' : Rd w.heap.size w a' ys) (hmk : nk ≤ 9223372036854775807) (hrk : Rd w.heap.size w ak taps) :
    Calls Try.prog 18 #[imv iw ih a n c, imv jw jh a' m c', imv kw kh ak nk ck, .int .u8 bd] w fun e w' => e = .returned (.bool true) ∧ Below w.heap.size w w' := by
  obtain ⟨zv, hzv0⟩ : ∃ v, sizedB iw ih xs jw jh ys = v := ⟨_, rfl⟩
  have hzv := Lib.hid hzv0
  obtain ⟨kv, hkv0⟩ : ∃ v, kernOk kw kh taps = v := ⟨_, rfl⟩
  have hkv := Lib.hid hkv0
  clear hzv0 hkv0
  cases zv with
  | false =>
    have hB : Below w.heap.size w (((w.alloc (.cells #[.int .i64 iw, .int .i64 ih, .slice a n c] 24)).alloc (.cells #[.int .i64 jw, .int .i64 jh, .slice a' m c'] 24)).alloc (.cells #[.int .i64 kw, .int .i64 kh, .slice ak nk ck] 64)) := below_al (below_al (below_al (Below.refl _ _) _) _) _
    have ka := (((Blk.new w 24 #[.int .i64 iw, .int .i64 ih, .slice a n c]).alloc (.cells #[.int .i64 jw, .int .i64 jh, .slice a' m c'] 24)).alloc (.cells #[.int .i64 kw, .int .i64 kh, .slice ak nk ck] 64))
    have kb := ((Blk.new (w.alloc (.cells #[.int .i64 iw, .int .i64 ih, .slice a n c] 24)) 24 #[.int .i64 jw, .int .i64 jh, .slice a' m c']).alloc (.cells #[.int .i64 kw, .int .i64 kh, .slice ak nk ck] 64))
    have kk := (Blk.new ((w.alloc (.cells #[.int .i64 iw, .int .i64 ih, .slice a n c] 24)).alloc (.cells #[.int .i64 jw, .int .i64 jh, .slice a' m c'] 24)) 64 #[.int .i64 kw, .int .i64 kh, .slice ak nk ck])
    simp only [World.size_alloc] at kb kk
    obtain ⟨W0, hW⟩ : ∃ W, (((w.alloc (.cells #[.int .i64 iw, .int .i64 ih, .slice a n c] 24)).alloc (.cells #[.int .i64 jw, .int .i64 jh, .slice a' m c'] 24)).alloc (.cells #[.int .i64 kw, .int .i64 kh, .slice ak nk ck] 64)) = W := ⟨_, rfl⟩
    rw [hW] at hB ka kb kk
    have m0 := ka.cell (i := 0) rfl
    have m1 := ka.cell (i := 1) rfl
    have m2 := ka.cell (i := 2) rfl
    have s0 := kb.cell (i := 0) rfl
    have s1 := kb.cell (i := 1) rfl
    have s2 := kb.cell (i := 2) rfl
    have t0 := kk.cell (i := 0) rfl
    have t1 := kk.cell (i := 1) rfl
    have t2 := kk.cell (i := 2) rfl
    go_enter Try.func18, Try.ntmps18
    go_wp2_with fail
    clear hW
    refine (alive_any _).mono ?_
    rintro e V1 ⟨rfl, hb⟩
    clear m0 m1 m2 s0 s1 s2 t0 t1 t2
    replace ka := ka.below hb ka.lt
    replace kb := kb.below hb kb.lt
    replace kk := kk.below hb kk.lt
    replace hB := hB.trans (hb.mono hB.size)
    have m0 := ka.cell (i := 0) rfl
    have m1 := ka.cell (i := 1) rfl
    have m2 := ka.cell (i := 2) rfl
    have s0 := kb.cell (i := 0) rfl
    have s1 := kb.cell (i := 1) rfl
    have s2 := kb.cell (i := 2) rfl
    have t0 := kk.cell (i := 0) rfl
    have t1 := kk.cell (i := 1) rfl
    have t2 := kk.cell (i := 2) rfl
    clear hb
    go_wp2_with fail
    refine (sized_any iw ih a c n xs hn jw jh a' c' m ys hn' _ hzv _ (by omega) ((hr.below (Nat.le_refl _) hB).mono hB.size) (by omega) ((hr'.below (Nat.le_refl _) hB).mono hB.size)).mono ?_
    rintro e V2 ⟨rfl, hb⟩
    clear m0 m1 m2 s0 s1 s2 t0 t1 t2
    replace ka := ka.below hb ka.lt
    replace kb := kb.below hb kb.lt
    replace kk := kk.below hb kk.lt
    replace hB := hB.trans (hb.mono hB.size)
    have m0 := ka.cell (i := 0) rfl
    have m1 := ka.cell (i := 1) rfl
    have m2 := ka.cell (i := 2) rfl
    have s0 := kb.cell (i := 0) rfl
    have s1 := kb.cell (i := 1) rfl
    have s2 := kb.cell (i := 2) rfl
    have t0 := kk.cell (i := 0) rfl
    have t1 := kk.cell (i := 1) rfl
    have t2 := kk.cell (i := 2) rfl
    clear hb
    go_wp2_with fail
    go_ret
    exact ⟨rfl, hB⟩
  | true =>
    have hz := hzv.out
    simp only [sizedB, Bool.and_eq_true, decide_eq_true_eq] at hz
    obtain ⟨⟨⟨hv1, hv2⟩, hj1⟩, hj2⟩ := hz
    subst hj1 hj2
    obtain ⟨⟨i1, i2⟩, ⟨i3, i4⟩, hl1, ha1⟩ := vld_true hv1
    obtain ⟨_, _, hl2, ha2⟩ := vld_true hv2
    obtain ⟨pw, rfl⟩ : ∃ pw : Nat, iw = (pw : Int) := ⟨iw.toNat, by omega⟩
    obtain ⟨ph, rfl⟩ : ∃ ph : Nat, ih = (ph : Int) := ⟨ih.toNat, by omega⟩
    have hN : pw * ph = n := by
      have h2 : ((pw * ph : Nat) : Int) = (pw : Int) * ph := by simp
      have := hn.out
      omega
    obtain rfl : n = m := by have := hn'.out; have := hn.out; omega
    have hn0 : 0 < n := by rw [← hN]; exact Nat.mul_pos (by omega) (by omega)
    have i1' : 1 ≤ pw := by omega
    have i2' : pw ≤ 16 := by omega
    have i3' : 1 ≤ ph := by omega
    have i4' : ph ≤ 16 := by omega
    cases kv with
    | false =>
      have hB : Below w.heap.size w (((w.alloc (.cells #[.int .i64 pw, .int .i64 ph, .slice a n c] 24)).alloc (.cells #[.int .i64 pw, .int .i64 ph, .slice a' n c'] 24)).alloc (.cells #[.int .i64 kw, .int .i64 kh, .slice ak nk ck] 64)) := below_al (below_al (below_al (Below.refl _ _) _) _) _
      have ka := (((Blk.new w 24 #[.int .i64 pw, .int .i64 ph, .slice a n c]).alloc (.cells #[.int .i64 pw, .int .i64 ph, .slice a' n c'] 24)).alloc (.cells #[.int .i64 kw, .int .i64 kh, .slice ak nk ck] 64))
      have kb := ((Blk.new (w.alloc (.cells #[.int .i64 pw, .int .i64 ph, .slice a n c] 24)) 24 #[.int .i64 pw, .int .i64 ph, .slice a' n c']).alloc (.cells #[.int .i64 kw, .int .i64 kh, .slice ak nk ck] 64))
      have kk := (Blk.new ((w.alloc (.cells #[.int .i64 pw, .int .i64 ph, .slice a n c] 24)).alloc (.cells #[.int .i64 pw, .int .i64 ph, .slice a' n c'] 24)) 64 #[.int .i64 kw, .int .i64 kh, .slice ak nk ck])
      simp only [World.size_alloc] at kb kk
      obtain ⟨W0, hW⟩ : ∃ W, (((w.alloc (.cells #[.int .i64 pw, .int .i64 ph, .slice a n c] 24)).alloc (.cells #[.int .i64 pw, .int .i64 ph, .slice a' n c'] 24)).alloc (.cells #[.int .i64 kw, .int .i64 kh, .slice ak nk ck] 64)) = W := ⟨_, rfl⟩
      rw [hW] at hB ka kb kk
      have m0 := ka.cell (i := 0) rfl
      have m1 := ka.cell (i := 1) rfl
      have m2 := ka.cell (i := 2) rfl
      have s0 := kb.cell (i := 0) rfl
      have s1 := kb.cell (i := 1) rfl
      have s2 := kb.cell (i := 2) rfl
      have t0 := kk.cell (i := 0) rfl
      have t1 := kk.cell (i := 1) rfl
      have t2 := kk.cell (i := 2) rfl
      go_enter Try.func18, Try.ntmps18
      go_wp2_with fail
      clear hW
      refine (alive_any _).mono ?_
      rintro e V1 ⟨rfl, hb⟩
      clear m0 m1 m2 s0 s1 s2 t0 t1 t2
      replace ka := ka.below hb ka.lt
      replace kb := kb.below hb kb.lt
      replace kk := kk.below hb kk.lt
      replace hB := hB.trans (hb.mono hB.size)
      have m0 := ka.cell (i := 0) rfl
      have m1 := ka.cell (i := 1) rfl
      have m2 := ka.cell (i := 2) rfl
      have s0 := kb.cell (i := 0) rfl
      have s1 := kb.cell (i := 1) rfl
      have s2 := kb.cell (i := 2) rfl
      have t0 := kk.cell (i := 0) rfl
      have t1 := kk.cell (i := 1) rfl
      have t2 := kk.cell (i := 2) rfl
      clear hb
      go_wp2_with fail
      refine (sized_any pw ph a c n xs hn pw ph a' c' n ys hn' true hzv _ (by omega) ((hr.below (Nat.le_refl _) hB).mono hB.size) (by omega) ((hr'.below (Nat.le_refl _) hB).mono hB.size)).mono ?_
      rintro e V2 ⟨rfl, hb⟩
      clear m0 m1 m2 s0 s1 s2 t0 t1 t2
      replace ka := ka.below hb ka.lt
      replace kb := kb.below hb kb.lt
      replace kk := kk.below hb kk.lt
      replace hB := hB.trans (hb.mono hB.size)
      have m0 := ka.cell (i := 0) rfl
      have m1 := ka.cell (i := 1) rfl
      have m2 := ka.cell (i := 2) rfl
      have s0 := kb.cell (i := 0) rfl
      have s1 := kb.cell (i := 1) rfl
      have s2 := kb.cell (i := 2) rfl
      have t0 := kk.cell (i := 0) rfl
      have t1 := kk.cell (i := 1) rfl
      have t2 := kk.cell (i := 2) rfl
      clear hb
      go_wp2_with fail
      refine (ValidKernel_any kw kh ak ck nk taps hkn _ hkv _ (by omega) ((hrk.below (Nat.le_refl _) hB).mono hB.size)).mono ?_
      rintro e V3 ⟨rfl, hb⟩
      clear m0 m1 m2 s0 s1 s2 t0 t1 t2
      replace ka := ka.below hb ka.lt
      replace kb := kb.below hb kb.lt
      replace kk := kk.below hb kk.lt
      replace hB := hB.trans (hb.mono hB.size)
      have m0 := ka.cell (i := 0) rfl
      have m1 := ka.cell (i := 1) rfl
      have m2 := ka.cell (i := 2) rfl
      have s0 := kb.cell (i := 0) rfl
      have s1 := kb.cell (i := 1) rfl
      have s2 := kb.cell (i := 2) rfl
      have t0 := kk.cell (i := 0) rfl
      have t1 := kk.cell (i := 1) rfl
      have t2 := kk.cell (i := 2) rfl
      clear hb
      go_wp2_with fail
      go_ret
      exact ⟨rfl, hB⟩
    | true =>
      have hkk := hkv.out
      unfold kernOk at hkk
      rw [Bool.and_eq_true] at hkk
      obtain ⟨s1, s2, s3⟩ := sidesB_true hkk.1
      obtain ⟨kw, rfl⟩ : ∃ k : Nat, kw = (k : Int) := ⟨kw.toNat, by omega⟩
      obtain ⟨kh, rfl⟩ : ∃ k : Nat, kh = (k : Int) := ⟨kh.toNat, by omega⟩
      have hnk0 : 0 < nk := by
        have h1 : 0 < (kw : Int) * (kh : Int) := Int.mul_pos (by omega) (by omega)
        have := hkn.out
        omega
      clear hkk
      by_cases hb1 : bd < 1
      · have eb1 : decide (bd < 1) = true := decide_eq_true hb1
        have hB : Below w.heap.size w (((w.alloc (.cells #[.int .i64 pw, .int .i64 ph, .slice a n c] 24)).alloc (.cells #[.int .i64 pw, .int .i64 ph, .slice a' n c'] 24)).alloc (.cells #[.int .i64 kw, .int .i64 kh, .slice ak nk ck] 64)) := below_al (below_al (below_al (Below.refl _ _) _) _) _
        have ka := (((Blk.new w 24 #[.int .i64 pw, .int .i64 ph, .slice a n c]).alloc (.cells #[.int .i64 pw, .int .i64 ph, .slice a' n c'] 24)).alloc (.cells #[.int .i64 kw, .int .i64 kh, .slice ak nk ck] 64))
        have kb := ((Blk.new (w.alloc (.cells #[.int .i64 pw, .int .i64 ph, .slice a n c] 24)) 24 #[.int .i64 pw, .int .i64 ph, .slice a' n c']).alloc (.cells #[.int .i64 kw, .int .i64 kh, .slice ak nk ck] 64))
        have kk := (Blk.new ((w.alloc (.cells #[.int .i64 pw, .int .i64 ph, .slice a n c] 24)).alloc (.cells #[.int .i64 pw, .int .i64 ph, .slice a' n c'] 24)) 64 #[.int .i64 kw, .int .i64 kh, .slice ak nk ck])
        simp only [World.size_alloc] at kb kk
        obtain ⟨W0, hW⟩ : ∃ W, (((w.alloc (.cells #[.int .i64 pw, .int .i64 ph, .slice a n c] 24)).alloc (.cells #[.int .i64 pw, .int .i64 ph, .slice a' n c'] 24)).alloc (.cells #[.int .i64 kw, .int .i64 kh, .slice ak nk ck] 64)) = W := ⟨_, rfl⟩
        rw [hW] at hB ka kb kk
        have m0 := ka.cell (i := 0) rfl
        have m1 := ka.cell (i := 1) rfl
        have m2 := ka.cell (i := 2) rfl
        have s0 := kb.cell (i := 0) rfl
        have s1 := kb.cell (i := 1) rfl
        have s2 := kb.cell (i := 2) rfl
        have t0 := kk.cell (i := 0) rfl
        have t1 := kk.cell (i := 1) rfl
        have t2 := kk.cell (i := 2) rfl
        go_enter Try.func18, Try.ntmps18
        go_wp2_with fail
        clear hW
        refine (alive_any _).mono ?_
        rintro e V1 ⟨rfl, hb⟩
        clear m0 m1 m2 s0 s1 s2 t0 t1 t2
        replace ka := ka.below hb ka.lt
        replace kb := kb.below hb kb.lt
        replace kk := kk.below hb kk.lt
        replace hB := hB.trans (hb.mono hB.size)
        have m0 := ka.cell (i := 0) rfl
        have m1 := ka.cell (i := 1) rfl
        have m2 := ka.cell (i := 2) rfl
        have s0 := kb.cell (i := 0) rfl
        have s1 := kb.cell (i := 1) rfl
        have s2 := kb.cell (i := 2) rfl
        have t0 := kk.cell (i := 0) rfl
        have t1 := kk.cell (i := 1) rfl
        have t2 := kk.cell (i := 2) rfl
        clear hb
        go_wp2_with fail
        refine (sized_any pw ph a c n xs hn pw ph a' c' n ys hn' true hzv _ (by omega) ((hr.below (Nat.le_refl _) hB).mono hB.size) (by omega) ((hr'.below (Nat.le_refl _) hB).mono hB.size)).mono ?_
        rintro e V2 ⟨rfl, hb⟩
        clear m0 m1 m2 s0 s1 s2 t0 t1 t2
        replace ka := ka.below hb ka.lt
        replace kb := kb.below hb kb.lt
        replace kk := kk.below hb kk.lt
        replace hB := hB.trans (hb.mono hB.size)
        have m0 := ka.cell (i := 0) rfl
        have m1 := ka.cell (i := 1) rfl
        have m2 := ka.cell (i := 2) rfl
        have s0 := kb.cell (i := 0) rfl
        have s1 := kb.cell (i := 1) rfl
        have s2 := kb.cell (i := 2) rfl
        have t0 := kk.cell (i := 0) rfl
        have t1 := kk.cell (i := 1) rfl
        have t2 := kk.cell (i := 2) rfl
        clear hb
        go_wp2_with fail
        refine (ValidKernel_any kw kh ak ck nk taps hkn _ hkv _ (by omega) ((hrk.below (Nat.le_refl _) hB).mono hB.size)).mono ?_
        rintro e V3 ⟨rfl, hb⟩
        clear m0 m1 m2 s0 s1 s2 t0 t1 t2
        replace ka := ka.below hb ka.lt
        replace kb := kb.below hb kb.lt
        replace kk := kk.below hb kk.lt
        replace hB := hB.trans (hb.mono hB.size)
        have m0 := ka.cell (i := 0) rfl
        have m1 := ka.cell (i := 1) rfl
        have m2 := ka.cell (i := 2) rfl
        have s0 := kb.cell (i := 0) rfl
        have s1 := kb.cell (i := 1) rfl
        have s2 := kb.cell (i := 2) rfl
        have t0 := kk.cell (i := 0) rfl
        have t1 := kk.cell (i := 1) rfl
        have t2 := kk.cell (i := 2) rfl
        clear hb
        go_wp2_with fail
        go_ret
        exact ⟨rfl, hB⟩
      · have eb1 : decide (bd < 1) = false := decide_eq_false hb1
        by_cases hb3 : 3 < bd
        · have eb3 : decide (3 < bd) = true := decide_eq_true hb3
          have hB : Below w.heap.size w (((w.alloc (.cells #[.int .i64 pw, .int .i64 ph, .slice a n c] 24)).alloc (.cells #[.int .i64 pw, .int .i64 ph, .slice a' n c'] 24)).alloc (.cells #[.int .i64 kw, .int .i64 kh, .slice ak nk ck] 64)) := below_al (below_al (below_al (Below.refl _ _) _) _) _
          have ka := (((Blk.new w 24 #[.int .i64 pw, .int .i64 ph, .slice a n c]).alloc (.cells #[.int .i64 pw, .int .i64 ph, .slice a' n c'] 24)).alloc (.cells #[.int .i64 kw, .int .i64 kh, .slice ak nk ck] 64))
          have kb := ((Blk.new (w.alloc (.cells #[.int .i64 pw, .int .i64 ph, .slice a n c] 24)) 24 #[.int .i64 pw, .int .i64 ph, .slice a' n c']).alloc (.cells #[.int .i64 kw, .int .i64 kh, .slice ak nk ck] 64))
          have kk := (Blk.new ((w.alloc (.cells #[.int .i64 pw, .int .i64 ph, .slice a n c] 24)).alloc (.cells #[.int .i64 pw, .int .i64 ph, .slice a' n c'] 24)) 64 #[.int .i64 kw, .int .i64 kh, .slice ak nk ck])
          simp only [World.size_alloc] at kb kk
          obtain ⟨W0, hW⟩ : ∃ W, (((w.alloc (.cells #[.int .i64 pw, .int .i64 ph, .slice a n c] 24)).alloc (.cells #[.int .i64 pw, .int .i64 ph, .slice a' n c'] 24)).alloc (.cells #[.int .i64 kw, .int .i64 kh, .slice ak nk ck] 64)) = W := ⟨_, rfl⟩
          rw [hW] at hB ka kb kk
          have m0 := ka.cell (i := 0) rfl
          have m1 := ka.cell (i := 1) rfl
          have m2 := ka.cell (i := 2) rfl
          have s0 := kb.cell (i := 0) rfl
          have s1 := kb.cell (i := 1) rfl
          have s2 := kb.cell (i := 2) rfl
          have t0 := kk.cell (i := 0) rfl
          have t1 := kk.cell (i := 1) rfl
          have t2 := kk.cell (i := 2) rfl
          go_enter Try.func18, Try.ntmps18
          go_wp2_with fail
          clear hW
          refine (alive_any _).mono ?_
          rintro e V1 ⟨rfl, hb⟩
          clear m0 m1 m2 s0 s1 s2 t0 t1 t2
          replace ka := ka.below hb ka.lt
          replace kb := kb.below hb kb.lt
          replace kk := kk.below hb kk.lt
          replace hB := hB.trans (hb.mono hB.size)
          have m0 := ka.cell (i := 0) rfl
          have m1 := ka.cell (i := 1) rfl
          have m2 := ka.cell (i := 2) rfl
          have s0 := kb.cell (i := 0) rfl
          have s1 := kb.cell (i := 1) rfl
          have s2 := kb.cell (i := 2) rfl
          have t0 := kk.cell (i := 0) rfl
          have t1 := kk.cell (i := 1) rfl
          have t2 := kk.cell (i := 2) rfl
          clear hb
          go_wp2_with fail
          refine (sized_any pw ph a c n xs hn pw ph a' c' n ys hn' true hzv _ (by omega) ((hr.below (Nat.le_refl _) hB).mono hB.size) (by omega) ((hr'.below (Nat.le_refl _) hB).mono hB.size)).mono ?_
          rintro e V2 ⟨rfl, hb⟩
          clear m0 m1 m2 s0 s1 s2 t0 t1 t2
          replace ka := ka.below hb ka.lt
          replace kb := kb.below hb kb.lt
          replace kk := kk.below hb kk.lt
          replace hB := hB.trans (hb.mono hB.size)
          have m0 := ka.cell (i := 0) rfl
          have m1 := ka.cell (i := 1) rfl
          have m2 := ka.cell (i := 2) rfl
          have s0 := kb.cell (i := 0) rfl
          have s1 := kb.cell (i := 1) rfl
          have s2 := kb.cell (i := 2) rfl
          have t0 := kk.cell (i := 0) rfl
          have t1 := kk.cell (i := 1) rfl
          have t2 := kk.cell (i := 2) rfl
          clear hb
          go_wp2_with fail
          refine (ValidKernel_any kw kh ak ck nk taps hkn _ hkv _ (by omega) ((hrk.below (Nat.le_refl _) hB).mono hB.size)).mono ?_
          rintro e V3 ⟨rfl, hb⟩
          clear m0 m1 m2 s0 s1 s2 t0 t1 t2
          replace ka := ka.below hb ka.lt
          replace kb := kb.below hb kb.lt
          replace kk := kk.below hb kk.lt
          replace hB := hB.trans (hb.mono hB.size)
          have m0 := ka.cell (i := 0) rfl
          have m1 := ka.cell (i := 1) rfl
          have m2 := ka.cell (i := 2) rfl
          have s0 := kb.cell (i := 0) rfl
          have s1 := kb.cell (i := 1) rfl
          have s2 := kb.cell (i := 2) rfl
          have t0 := kk.cell (i := 0) rfl
          have t1 := kk.cell (i := 1) rfl
          have t2 := kk.cell (i := 2) rfl
          clear hb
          go_wp2_with fail
          go_ret
          exact ⟨rfl, hB⟩
        · have eb3 : decide (3 < bd) = false := decide_eq_false hb3
          obtain ⟨vma, h0ma⟩ : ∃ v, allIn (-1000) 1000 xs = v := ⟨_, rfl⟩
          have hma := Lib.hid h0ma
          clear h0ma
          cases vma with
          | false =>
            have hB : Below w.heap.size w (((w.alloc (.cells #[.int .i64 pw, .int .i64 ph, .slice a n c] 24)).alloc (.cells #[.int .i64 pw, .int .i64 ph, .slice a' n c'] 24)).alloc (.cells #[.int .i64 kw, .int .i64 kh, .slice ak nk ck] 64)) := below_al (below_al (below_al (Below.refl _ _) _) _) _
            have ka := (((Blk.new w 24 #[.int .i64 pw, .int .i64 ph, .slice a n c]).alloc (.cells #[.int .i64 pw, .int .i64 ph, .slice a' n c'] 24)).alloc (.cells #[.int .i64 kw, .int .i64 kh, .slice ak nk ck] 64))
            have kb := ((Blk.new (w.alloc (.cells #[.int .i64 pw, .int .i64 ph, .slice a n c] 24)) 24 #[.int .i64 pw, .int .i64 ph, .slice a' n c']).alloc (.cells #[.int .i64 kw, .int .i64 kh, .slice ak nk ck] 64))
            have kk := (Blk.new ((w.alloc (.cells #[.int .i64 pw, .int .i64 ph, .slice a n c] 24)).alloc (.cells #[.int .i64 pw, .int .i64 ph, .slice a' n c'] 24)) 64 #[.int .i64 kw, .int .i64 kh, .slice ak nk ck])
            simp only [World.size_alloc] at kb kk
            obtain ⟨W0, hW⟩ : ∃ W, (((w.alloc (.cells #[.int .i64 pw, .int .i64 ph, .slice a n c] 24)).alloc (.cells #[.int .i64 pw, .int .i64 ph, .slice a' n c'] 24)).alloc (.cells #[.int .i64 kw, .int .i64 kh, .slice ak nk ck] 64)) = W := ⟨_, rfl⟩
            rw [hW] at hB ka kb kk
            have m0 := ka.cell (i := 0) rfl
            have m1 := ka.cell (i := 1) rfl
            have m2 := ka.cell (i := 2) rfl
            have s0 := kb.cell (i := 0) rfl
            have s1 := kb.cell (i := 1) rfl
            have s2 := kb.cell (i := 2) rfl
            have t0 := kk.cell (i := 0) rfl
            have t1 := kk.cell (i := 1) rfl
            have t2 := kk.cell (i := 2) rfl
            go_enter Try.func18, Try.ntmps18
            go_wp2_with fail
            clear hW
            refine (alive_any _).mono ?_
            rintro e V1 ⟨rfl, hb⟩
            clear m0 m1 m2 s0 s1 s2 t0 t1 t2
            replace ka := ka.below hb ka.lt
            replace kb := kb.below hb kb.lt
            replace kk := kk.below hb kk.lt
            replace hB := hB.trans (hb.mono hB.size)
            have m0 := ka.cell (i := 0) rfl
            have m1 := ka.cell (i := 1) rfl
            have m2 := ka.cell (i := 2) rfl
            have s0 := kb.cell (i := 0) rfl
            have s1 := kb.cell (i := 1) rfl
            have s2 := kb.cell (i := 2) rfl
            have t0 := kk.cell (i := 0) rfl
            have t1 := kk.cell (i := 1) rfl
            have t2 := kk.cell (i := 2) rfl
            clear hb
            go_wp2_with fail
            refine (sized_any pw ph a c n xs hn pw ph a' c' n ys hn' true hzv _ (by omega) ((hr.below (Nat.le_refl _) hB).mono hB.size) (by omega) ((hr'.below (Nat.le_refl _) hB).mono hB.size)).mono ?_
            rintro e V2 ⟨rfl, hb⟩
            clear m0 m1 m2 s0 s1 s2 t0 t1 t2
            replace ka := ka.below hb ka.lt
            replace kb := kb.below hb kb.lt
            replace kk := kk.below hb kk.lt
            replace hB := hB.trans (hb.mono hB.size)
            have m0 := ka.cell (i := 0) rfl
            have m1 := ka.cell (i := 1) rfl
            have m2 := ka.cell (i := 2) rfl
            have s0 := kb.cell (i := 0) rfl
            have s1 := kb.cell (i := 1) rfl
            have s2 := kb.cell (i := 2) rfl
            have t0 := kk.cell (i := 0) rfl
            have t1 := kk.cell (i := 1) rfl
            have t2 := kk.cell (i := 2) rfl
            clear hb
            go_wp2_with fail
            refine (ValidKernel_any kw kh ak ck nk taps hkn _ hkv _ (by omega) ((hrk.below (Nat.le_refl _) hB).mono hB.size)).mono ?_
            rintro e V3 ⟨rfl, hb⟩
            clear m0 m1 m2 s0 s1 s2 t0 t1 t2
            replace ka := ka.below hb ka.lt
            replace kb := kb.below hb kb.lt
            replace kk := kk.below hb kk.lt
            replace hB := hB.trans (hb.mono hB.size)
            have m0 := ka.cell (i := 0) rfl
            have m1 := ka.cell (i := 1) rfl
            have m2 := ka.cell (i := 2) rfl
            have s0 := kb.cell (i := 0) rfl
            have s1 := kb.cell (i := 1) rfl
            have s2 := kb.cell (i := 2) rfl
            have t0 := kk.cell (i := 0) rfl
            have t1 := kk.cell (i := 1) rfl
            have t2 := kk.cell (i := 2) rfl
            clear hb
            go_wp2_with fail
            refine (modest_any pw ph a c n xs hn 1000 (by decide) (by decide) _ hma hn0 _ (by omega) ((hr.below (Nat.le_refl _) hB).mono hB.size)).mono ?_
            rintro e V4 ⟨rfl, hb⟩
            clear m0 m1 m2 s0 s1 s2 t0 t1 t2
            replace ka := ka.below hb ka.lt
            replace kb := kb.below hb kb.lt
            replace kk := kk.below hb kk.lt
            replace hB := hB.trans (hb.mono hB.size)
            have m0 := ka.cell (i := 0) rfl
            have m1 := ka.cell (i := 1) rfl
            have m2 := ka.cell (i := 2) rfl
            have s0 := kb.cell (i := 0) rfl
            have s1 := kb.cell (i := 1) rfl
            have s2 := kb.cell (i := 2) rfl
            have t0 := kk.cell (i := 0) rfl
            have t1 := kk.cell (i := 1) rfl
            have t2 := kk.cell (i := 2) rfl
            clear hb
            go_wp2_with fail
            go_ret
            exact ⟨rfl, hB⟩
          | true =>
            obtain ⟨vmb, h0mb⟩ : ∃ v, allIn (-1000) 1000 ys = v := ⟨_, rfl⟩
            have hmb := Lib.hid h0mb
            clear h0mb
            cases vmb with
            | false =>
              have hB : Below w.heap.size w (((w.alloc (.cells #[.int .i64 pw, .int .i64 ph, .slice a n c] 24)).alloc (.cells #[.int .i64 pw, .int .i64 ph, .slice a' n c'] 24)).alloc (.cells #[.int .i64 kw, .int .i64 kh, .slice ak nk ck] 64)) := below_al (below_al (below_al (Below.refl _ _) _) _) _
              have ka := (((Blk.new w 24 #[.int .i64 pw, .int .i64 ph, .slice a n c]).alloc (.cells #[.int .i64 pw, .int .i64 ph, .slice a' n c'] 24)).alloc (.cells #[.int .i64 kw, .int .i64 kh, .slice ak nk ck] 64))
              have kb := ((Blk.new (w.alloc (.cells #[.int .i64 pw, .int .i64 ph, .slice a n c] 24)) 24 #[.int .i64 pw, .int .i64 ph, .slice a' n c']).alloc (.cells #[.int .i64 kw, .int .i64 kh, .slice ak nk ck] 64))
              have kk := (Blk.new ((w.alloc (.cells #[.int .i64 pw, .int .i64 ph, .slice a n c] 24)).alloc (.cells #[.int .i64 pw, .int .i64 ph, .slice a' n c'] 24)) 64 #[.int .i64 kw, .int .i64 kh, .slice ak nk ck])
              simp only [World.size_alloc] at kb kk
              obtain ⟨W0, hW⟩ : ∃ W, (((w.alloc (.cells #[.int .i64 pw, .int .i64 ph, .slice a n c] 24)).alloc (.cells #[.int .i64 pw, .int .i64 ph, .slice a' n c'] 24)).alloc (.cells #[.int .i64 kw, .int .i64 kh, .slice ak nk ck] 64)) = W := ⟨_, rfl⟩
              rw [hW] at hB ka kb kk
              have m0 := ka.cell (i := 0) rfl
              have m1 := ka.cell (i := 1) rfl
              have m2 := ka.cell (i := 2) rfl
              have s0 := kb.cell (i := 0) rfl
              have s1 := kb.cell (i := 1) rfl
              have s2 := kb.cell (i := 2) rfl
              have t0 := kk.cell (i := 0) rfl
              have t1 := kk.cell (i := 1) rfl
              have t2 := kk.cell (i := 2) rfl
              go_enter Try.func18, Try.ntmps18
              go_wp2_with fail
              clear hW
              refine (alive_any _).mono ?_
              rintro e V1 ⟨rfl, hb⟩
              clear m0 m1 m2 s0 s1 s2 t0 t1 t2
              replace ka := ka.below hb ka.lt
              replace kb := kb.below hb kb.lt
              replace kk := kk.below hb kk.lt
              replace hB := hB.trans (hb.mono hB.size)
              have m0 := ka.cell (i := 0) rfl
              have m1 := ka.cell (i := 1) rfl
              have m2 := ka.cell (i := 2) rfl
              have s0 := kb.cell (i := 0) rfl
              have s1 := kb.cell (i := 1) rfl
              have s2 := kb.cell (i := 2) rfl
              have t0 := kk.cell (i := 0) rfl
              have t1 := kk.cell (i := 1) rfl
              have t2 := kk.cell (i := 2) rfl
              clear hb
              go_wp2_with fail
              refine (sized_any pw ph a c n xs hn pw ph a' c' n ys hn' true hzv _ (by omega) ((hr.below (Nat.le_refl _) hB).mono hB.size) (by omega) ((hr'.below (Nat.le_refl _) hB).mono hB.size)).mono ?_
              rintro e V2 ⟨rfl, hb⟩
              clear m0 m1 m2 s0 s1 s2 t0 t1 t2
              replace ka := ka.below hb ka.lt
              replace kb := kb.below hb kb.lt
              replace kk := kk.below hb kk.lt
              replace hB := hB.trans (hb.mono hB.size)
              have m0 := ka.cell (i := 0) rfl
              have m1 := ka.cell (i := 1) rfl
              have m2 := ka.cell (i := 2) rfl
              have s0 := kb.cell (i := 0) rfl
              have s1 := kb.cell (i := 1) rfl
              have s2 := kb.cell (i := 2) rfl
              have t0 := kk.cell (i := 0) rfl
              have t1 := kk.cell (i := 1) rfl
              have t2 := kk.cell (i := 2) rfl
              clear hb
              go_wp2_with fail
              refine (ValidKernel_any kw kh ak ck nk taps hkn _ hkv _ (by omega) ((hrk.below (Nat.le_refl _) hB).mono hB.size)).mono ?_
              rintro e V3 ⟨rfl, hb⟩
              clear m0 m1 m2 s0 s1 s2 t0 t1 t2
              replace ka := ka.below hb ka.lt
              replace kb := kb.below hb kb.lt
              replace kk := kk.below hb kk.lt
              replace hB := hB.trans (hb.mono hB.size)
              have m0 := ka.cell (i := 0) rfl
              have m1 := ka.cell (i := 1) rfl
              have m2 := ka.cell (i := 2) rfl
              have s0 := kb.cell (i := 0) rfl
              have s1 := kb.cell (i := 1) rfl
              have s2 := kb.cell (i := 2) rfl
              have t0 := kk.cell (i := 0) rfl
              have t1 := kk.cell (i := 1) rfl
              have t2 := kk.cell (i := 2) rfl
              clear hb
              go_wp2_with fail
              refine (modest_any pw ph a c n xs hn 1000 (by decide) (by decide) _ hma hn0 _ (by omega) ((hr.below (Nat.le_refl _) hB).mono hB.size)).mono ?_
              rintro e V4 ⟨rfl, hb⟩
              clear m0 m1 m2 s0 s1 s2 t0 t1 t2
              replace ka := ka.below hb ka.lt
              replace kb := kb.below hb kb.lt
              replace kk := kk.below hb kk.lt
              replace hB := hB.trans (hb.mono hB.size)
              have m0 := ka.cell (i := 0) rfl
              have m1 := ka.cell (i := 1) rfl
              have m2 := ka.cell (i := 2) rfl
              have s0 := kb.cell (i := 0) rfl
              have s1 := kb.cell (i := 1) rfl
              have s2 := kb.cell (i := 2) rfl
              have t0 := kk.cell (i := 0) rfl
              have t1 := kk.cell (i := 1) rfl
              have t2 := kk.cell (i := 2) rfl
              clear hb
              go_wp2_with fail
              refine (modest_any pw ph a' c' n ys hn' 1000 (by decide) (by decide) _ hmb hn0 _ (by omega) ((hr'.below (Nat.le_refl _) hB).mono hB.size)).mono ?_
              rintro e V5 ⟨rfl, hb⟩
              clear m0 m1 m2 s0 s1 s2 t0 t1 t2
              replace ka := ka.below hb ka.lt
              replace kb := kb.below hb kb.lt
              replace kk := kk.below hb kk.lt
              replace hB := hB.trans (hb.mono hB.size)
              have m0 := ka.cell (i := 0) rfl
              have m1 := ka.cell (i := 1) rfl
              have m2 := ka.cell (i := 2) rfl
              have s0 := kb.cell (i := 0) rfl
              have s1 := kb.cell (i := 1) rfl
              have s2 := kb.cell (i := 2) rfl
              have t0 := kk.cell (i := 0) rfl
              have t1 := kk.cell (i := 1) rfl
              have t2 := kk.cell (i := 2) rfl
              clear hb
              go_wp2_with fail
              go_ret
              exact ⟨rfl, hB⟩
            | true =>
              obtain ⟨vsk, h0sk⟩ : ∃ v, allIn (-1000) 1000 taps = v := ⟨_, rfl⟩
              have hsk := Lib.hid h0sk
              clear h0sk
              cases vsk with
              | false =>
                have hB : Below w.heap.size w (((w.alloc (.cells #[.int .i64 pw, .int .i64 ph, .slice a n c] 24)).alloc (.cells #[.int .i64 pw, .int .i64 ph, .slice a' n c'] 24)).alloc (.cells #[.int .i64 kw, .int .i64 kh, .slice ak nk ck] 64)) := below_al (below_al (below_al (Below.refl _ _) _) _) _
                have ka := (((Blk.new w 24 #[.int .i64 pw, .int .i64 ph, .slice a n c]).alloc (.cells #[.int .i64 pw, .int .i64 ph, .slice a' n c'] 24)).alloc (.cells #[.int .i64 kw, .int .i64 kh, .slice ak nk ck] 64))
                have kb := ((Blk.new (w.alloc (.cells #[.int .i64 pw, .int .i64 ph, .slice a n c] 24)) 24 #[.int .i64 pw, .int .i64 ph, .slice a' n c']).alloc (.cells #[.int .i64 kw, .int .i64 kh, .slice ak nk ck] 64))
                have kk := (Blk.new ((w.alloc (.cells #[.int .i64 pw, .int .i64 ph, .slice a n c] 24)).alloc (.cells #[.int .i64 pw, .int .i64 ph, .slice a' n c'] 24)) 64 #[.int .i64 kw, .int .i64 kh, .slice ak nk ck])
                simp only [World.size_alloc] at kb kk
                obtain ⟨W0, hW⟩ : ∃ W, (((w.alloc (.cells #[.int .i64 pw, .int .i64 ph, .slice a n c] 24)).alloc (.cells #[.int .i64 pw, .int .i64 ph, .slice a' n c'] 24)).alloc (.cells #[.int .i64 kw, .int .i64 kh, .slice ak nk ck] 64)) = W := ⟨_, rfl⟩
                rw [hW] at hB ka kb kk
                have m0 := ka.cell (i := 0) rfl
                have m1 := ka.cell (i := 1) rfl
                have m2 := ka.cell (i := 2) rfl
                have s0 := kb.cell (i := 0) rfl
                have s1 := kb.cell (i := 1) rfl
                have s2 := kb.cell (i := 2) rfl
                have t0 := kk.cell (i := 0) rfl
                have t1 := kk.cell (i := 1) rfl
                have t2 := kk.cell (i := 2) rfl
                go_enter Try.func18, Try.ntmps18
                go_wp2_with fail
                clear hW
                refine (alive_any _).mono ?_
                rintro e V1 ⟨rfl, hb⟩
                clear m0 m1 m2 s0 s1 s2 t0 t1 t2
                replace ka := ka.below hb ka.lt
                replace kb := kb.below hb kb.lt
                replace kk := kk.below hb kk.lt
                replace hB := hB.trans (hb.mono hB.size)
                have m0 := ka.cell (i := 0) rfl
                have m1 := ka.cell (i := 1) rfl
                have m2 := ka.cell (i := 2) rfl
                have s0 := kb.cell (i := 0) rfl
                have s1 := kb.cell (i := 1) rfl
                have s2 := kb.cell (i := 2) rfl
                have t0 := kk.cell (i := 0) rfl
                have t1 := kk.cell (i := 1) rfl
                have t2 := kk.cell (i := 2) rfl
                clear hb
                go_wp2_with fail
                refine (sized_any pw ph a c n xs hn pw ph a' c' n ys hn' true hzv _ (by omega) ((hr.below (Nat.le_refl _) hB).mono hB.size) (by omega) ((hr'.below (Nat.le_refl _) hB).mono hB.size)).mono ?_
                rintro e V2 ⟨rfl, hb⟩
                clear m0 m1 m2 s0 s1 s2 t0 t1 t2
                replace ka := ka.below hb ka.lt
                replace kb := kb.below hb kb.lt
                replace kk := kk.below hb kk.lt
                replace hB := hB.trans (hb.mono hB.size)
                have m0 := ka.cell (i := 0) rfl
                have m1 := ka.cell (i := 1) rfl
                have m2 := ka.cell (i := 2) rfl
                have s0 := kb.cell (i := 0) rfl
                have s1 := kb.cell (i := 1) rfl
                have s2 := kb.cell (i := 2) rfl
                have t0 := kk.cell (i := 0) rfl
                have t1 := kk.cell (i := 1) rfl
                have t2 := kk.cell (i := 2) rfl
                clear hb
                go_wp2_with fail
                refine (ValidKernel_any kw kh ak ck nk taps hkn _ hkv _ (by omega) ((hrk.below (Nat.le_refl _) hB).mono hB.size)).mono ?_
                rintro e V3 ⟨rfl, hb⟩
                clear m0 m1 m2 s0 s1 s2 t0 t1 t2
                replace ka := ka.below hb ka.lt
                replace kb := kb.below hb kb.lt
                replace kk := kk.below hb kk.lt
                replace hB := hB.trans (hb.mono hB.size)
                have m0 := ka.cell (i := 0) rfl
                have m1 := ka.cell (i := 1) rfl
                have m2 := ka.cell (i := 2) rfl
                have s0 := kb.cell (i := 0) rfl
                have s1 := kb.cell (i := 1) rfl
                have s2 := kb.cell (i := 2) rfl
                have t0 := kk.cell (i := 0) rfl
                have t1 := kk.cell (i := 1) rfl
                have t2 := kk.cell (i := 2) rfl
                clear hb
                go_wp2_with fail
                refine (modest_any pw ph a c n xs hn 1000 (by decide) (by decide) _ hma hn0 _ (by omega) ((hr.below (Nat.le_refl _) hB).mono hB.size)).mono ?_
                rintro e V4 ⟨rfl, hb⟩
                clear m0 m1 m2 s0 s1 s2 t0 t1 t2
                replace ka := ka.below hb ka.lt
                replace kb := kb.below hb kb.lt
                replace kk := kk.below hb kk.lt
                replace hB := hB.trans (hb.mono hB.size)
                have m0 := ka.cell (i := 0) rfl
                have m1 := ka.cell (i := 1) rfl
                have m2 := ka.cell (i := 2) rfl
                have s0 := kb.cell (i := 0) rfl
                have s1 := kb.cell (i := 1) rfl
                have s2 := kb.cell (i := 2) rfl
                have t0 := kk.cell (i := 0) rfl
                have t1 := kk.cell (i := 1) rfl
                have t2 := kk.cell (i := 2) rfl
                clear hb
                go_wp2_with fail
                refine (modest_any pw ph a' c' n ys hn' 1000 (by decide) (by decide) _ hmb hn0 _ (by omega) ((hr'.below (Nat.le_refl _) hB).mono hB.size)).mono ?_
                rintro e V5 ⟨rfl, hb⟩
                clear m0 m1 m2 s0 s1 s2 t0 t1 t2
                replace ka := ka.below hb ka.lt
                replace kb := kb.below hb kb.lt
                replace kk := kk.below hb kk.lt
                replace hB := hB.trans (hb.mono hB.size)
                have m0 := ka.cell (i := 0) rfl
                have m1 := ka.cell (i := 1) rfl
                have m2 := ka.cell (i := 2) rfl
                have s0 := kb.cell (i := 0) rfl
                have s1 := kb.cell (i := 1) rfl
                have s2 := kb.cell (i := 2) rfl
                have t0 := kk.cell (i := 0) rfl
                have t1 := kk.cell (i := 1) rfl
                have t2 := kk.cell (i := 2) rfl
                clear hb
                go_wp2_with fail
                refine (small_any kw kh ak ck nk taps hkn 1000 (by decide) (by decide) _ hsk hnk0 _ (by omega) ((hrk.below (Nat.le_refl _) hB).mono hB.size)).mono ?_
                rintro e V6 ⟨rfl, hb⟩
                clear m0 m1 m2 s0 s1 s2 t0 t1 t2
                replace ka := ka.below hb ka.lt
                replace kb := kb.below hb kb.lt
                replace kk := kk.below hb kk.lt
                replace hB := hB.trans (hb.mono hB.size)
                have m0 := ka.cell (i := 0) rfl
                have m1 := ka.cell (i := 1) rfl
                have m2 := ka.cell (i := 2) rfl
                have s0 := kb.cell (i := 0) rfl
                have s1 := kb.cell (i := 1) rfl
                have s2 := kb.cell (i := 2) rfl
                have t0 := kk.cell (i := 0) rfl
                have t1 := kk.cell (i := 1) rfl
                have t2 := kk.cell (i := 2) rfl
                clear hb
                go_wp2_with fail
                go_ret
                exact ⟨rfl, hB⟩
              | true =>
                have hkw25 : kw * kh ≤ 25 := by
                  have h1 : kw ≤ 5 := by omega
                  have h2 : kh ≤ 5 := by omega
                  have := Nat.mul_le_mul h1 h2
                  omega
                have hlS := Lib.hid (show (img pw ph (zipG pw xs ys 1)).length = n from (img_length _ _ _).trans hN)
                have hlX := Lib.hid (show (img pw ph (convG bd pw ph (img pw ph (zipG pw xs ys 1)) kw kh taps)).length = n from (img_length _ _ _).trans hN)
                have hlP := Lib.hid (show (img pw ph (convG bd pw ph xs kw kh taps)).length = n from (img_length _ _ _).trans hN)
                have hlQ := Lib.hid (show (img pw ph (convG bd pw ph ys kw kh taps)).length = n from (img_length _ _ _).trans hN)
                have hSS := Lib.hid (zipS_ok (pw := pw) (ph := ph) (how := 1) hv1 hv2 (by decide) (by decide))
                have hSX := Lib.hid (convS_ok (bd := bd) (vld_img i1' i2' i3' i4' (zipG pw xs ys 1)) hkv.out (by omega) (by omega))
                have hSP := Lib.hid (convS_ok (bd := bd) hv1 hkv.out (by omega) (by omega))
                have hSQ := Lib.hid (convS_ok (bd := bd) hv2 hkv.out (by omega) (by omega))
                have hSY := Lib.hid ((zipS_ok (how := 1) (vld_img i1' i2' i3' i4' (convG bd pw ph xs kw kh taps)) (vld_img i1' i2' i3' i4' (convG bd pw ph ys kw kh taps)) (by decide) (by decide)).trans (congrArg (fun l => ImR.mk (pw : Int) (ph : Int) l 0) (conv_linear (bd := bd) hma.out hmb.out hsk.out (hn.out.trans hN.symm) (hn'.out.trans hN.symm) hkw25)))
                have hSZ := Lib.hid (show convS pw ph xs 1 1 [1] bd = { w := pw, h := ph, px := xs, err := 0 } from (convS_ok (kw := 1) (kh := 1) (taps := [1]) (bd := bd) hv1 (by decide) (by omega) (by omega)).trans (congrArg (fun l => ImR.mk (pw : Int) (ph : Int) l 0) (conv_one ha1 (hn.out.trans hN.symm))))
                clear hv1 hv2 ha1 ha2 hl1 hl2 hN
                generalize img pw ph (convG bd pw ph (img pw ph (zipG pw xs ys 1)) kw kh taps) = X at *
                generalize img pw ph (convG bd pw ph xs kw kh taps) = P at *
                generalize img pw ph (convG bd pw ph ys kw kh taps) = Q at *
                generalize img pw ph (zipG pw xs ys 1) = S at *
                have hB : Below w.heap.size w (((w.alloc (.cells #[.int .i64 pw, .int .i64 ph, .slice a n c] 24)).alloc (.cells #[.int .i64 pw, .int .i64 ph, .slice a' n c'] 24)).alloc (.cells #[.int .i64 kw, .int .i64 kh, .slice ak nk ck] 64)) := below_al (below_al (below_al (Below.refl _ _) _) _) _
                have ka := (((Blk.new w 24 #[.int .i64 pw, .int .i64 ph, .slice a n c]).alloc (.cells #[.int .i64 pw, .int .i64 ph, .slice a' n c'] 24)).alloc (.cells #[.int .i64 kw, .int .i64 kh, .slice ak nk ck] 64))
                have kb := ((Blk.new (w.alloc (.cells #[.int .i64 pw, .int .i64 ph, .slice a n c] 24)) 24 #[.int .i64 pw, .int .i64 ph, .slice a' n c']).alloc (.cells #[.int .i64 kw, .int .i64 kh, .slice ak nk ck] 64))
                have kk := (Blk.new ((w.alloc (.cells #[.int .i64 pw, .int .i64 ph, .slice a n c] 24)).alloc (.cells #[.int .i64 pw, .int .i64 ph, .slice a' n c'] 24)) 64 #[.int .i64 kw, .int .i64 kh, .slice ak nk ck])
                simp only [World.size_alloc] at kb kk
                obtain ⟨W0, hW⟩ : ∃ W, (((w.alloc (.cells #[.int .i64 pw, .int .i64 ph, .slice a n c] 24)).alloc (.cells #[.int .i64 pw, .int .i64 ph, .slice a' n c'] 24)).alloc (.cells #[.int .i64 kw, .int .i64 kh, .slice ak nk ck] 64)) = W := ⟨_, rfl⟩
                rw [hW] at hB ka kb kk
                have m0 := ka.cell (i := 0) rfl
                have m1 := ka.cell (i := 1) rfl
                have m2 := ka.cell (i := 2) rfl
                have s0 := kb.cell (i := 0) rfl
                have s1 := kb.cell (i := 1) rfl
                have s2 := kb.cell (i := 2) rfl
                have t0 := kk.cell (i := 0) rfl
                have t1 := kk.cell (i := 1) rfl
                have t2 := kk.cell (i := 2) rfl
                go_enter Try.func18, Try.ntmps18
                go_wp2_with fail
                clear hW
                refine (alive_any _).mono ?_
                rintro e V1 ⟨rfl, hb⟩
                clear m0 m1 m2 s0 s1 s2 t0 t1 t2
                replace ka := ka.below hb ka.lt
                replace kb := kb.below hb kb.lt
                replace kk := kk.below hb kk.lt
                replace hB := hB.trans (hb.mono hB.size)
                have m0 := ka.cell (i := 0) rfl
                have m1 := ka.cell (i := 1) rfl
                have m2 := ka.cell (i := 2) rfl
                have s0 := kb.cell (i := 0) rfl
                have s1 := kb.cell (i := 1) rfl
                have s2 := kb.cell (i := 2) rfl
                have t0 := kk.cell (i := 0) rfl
                have t1 := kk.cell (i := 1) rfl
                have t2 := kk.cell (i := 2) rfl
                clear hb
                go_wp2_with fail
                refine (sized_any pw ph a c n xs hn pw ph a' c' n ys hn' true hzv _ (by omega) ((hr.below (Nat.le_refl _) hB).mono hB.size) (by omega) ((hr'.below (Nat.le_refl _) hB).mono hB.size)).mono ?_
                rintro e V2 ⟨rfl, hb⟩
                clear m0 m1 m2 s0 s1 s2 t0 t1 t2
                replace ka := ka.below hb ka.lt
                replace kb := kb.below hb kb.lt
                replace kk := kk.below hb kk.lt
                replace hB := hB.trans (hb.mono hB.size)
                have m0 := ka.cell (i := 0) rfl
                have m1 := ka.cell (i := 1) rfl
                have m2 := ka.cell (i := 2) rfl
                have s0 := kb.cell (i := 0) rfl
                have s1 := kb.cell (i := 1) rfl
                have s2 := kb.cell (i := 2) rfl
                have t0 := kk.cell (i := 0) rfl
                have t1 := kk.cell (i := 1) rfl
                have t2 := kk.cell (i := 2) rfl
                clear hb
                go_wp2_with fail
                refine (ValidKernel_any kw kh ak ck nk taps hkn _ hkv _ (by omega) ((hrk.below (Nat.le_refl _) hB).mono hB.size)).mono ?_
                rintro e V3 ⟨rfl, hb⟩
                clear m0 m1 m2 s0 s1 s2 t0 t1 t2
                replace ka := ka.below hb ka.lt
                replace kb := kb.below hb kb.lt
                replace kk := kk.below hb kk.lt
                replace hB := hB.trans (hb.mono hB.size)
                have m0 := ka.cell (i := 0) rfl
                have m1 := ka.cell (i := 1) rfl
                have m2 := ka.cell (i := 2) rfl
                have s0 := kb.cell (i := 0) rfl
                have s1 := kb.cell (i := 1) rfl
                have s2 := kb.cell (i := 2) rfl
                have t0 := kk.cell (i := 0) rfl
                have t1 := kk.cell (i := 1) rfl
                have t2 := kk.cell (i := 2) rfl
                clear hb
                go_wp2_with fail
                refine (modest_any pw ph a c n xs hn 1000 (by decide) (by decide) _ hma hn0 _ (by omega) ((hr.below (Nat.le_refl _) hB).mono hB.size)).mono ?_
                rintro e V4 ⟨rfl, hb⟩
                clear m0 m1 m2 s0 s1 s2 t0 t1 t2
                replace ka := ka.below hb ka.lt
                replace kb := kb.below hb kb.lt
                replace kk := kk.below hb kk.lt
                replace hB := hB.trans (hb.mono hB.size)
                have m0 := ka.cell (i := 0) rfl
                have m1 := ka.cell (i := 1) rfl
                have m2 := ka.cell (i := 2) rfl
                have s0 := kb.cell (i := 0) rfl
                have s1 := kb.cell (i := 1) rfl
                have s2 := kb.cell (i := 2) rfl
                have t0 := kk.cell (i := 0) rfl
                have t1 := kk.cell (i := 1) rfl
                have t2 := kk.cell (i := 2) rfl
                clear hb
                go_wp2_with fail
                refine (modest_any pw ph a' c' n ys hn' 1000 (by decide) (by decide) _ hmb hn0 _ (by omega) ((hr'.below (Nat.le_refl _) hB).mono hB.size)).mono ?_
                rintro e V5 ⟨rfl, hb⟩
                clear m0 m1 m2 s0 s1 s2 t0 t1 t2
                replace ka := ka.below hb ka.lt
                replace kb := kb.below hb kb.lt
                replace kk := kk.below hb kk.lt
                replace hB := hB.trans (hb.mono hB.size)
                have m0 := ka.cell (i := 0) rfl
                have m1 := ka.cell (i := 1) rfl
                have m2 := ka.cell (i := 2) rfl
                have s0 := kb.cell (i := 0) rfl
                have s1 := kb.cell (i := 1) rfl
                have s2 := kb.cell (i := 2) rfl
                have t0 := kk.cell (i := 0) rfl
                have t1 := kk.cell (i := 1) rfl
                have t2 := kk.cell (i := 2) rfl
                clear hb
                go_wp2_with fail
                refine (small_any kw kh ak ck nk taps hkn 1000 (by decide) (by decide) _ hsk hnk0 _ (by omega) ((hrk.below (Nat.le_refl _) hB).mono hB.size)).mono ?_
                rintro e V6 ⟨rfl, hb⟩
                clear m0 m1 m2 s0 s1 s2 t0 t1 t2
                replace ka := ka.below hb ka.lt
                replace kb := kb.below hb kb.lt
                replace kk := kk.below hb kk.lt
                replace hB := hB.trans (hb.mono hB.size)
                have m0 := ka.cell (i := 0) rfl
                have m1 := ka.cell (i := 1) rfl
                have m2 := ka.cell (i := 2) rfl
                have s0 := kb.cell (i := 0) rfl
                have s1 := kb.cell (i := 1) rfl
                have s2 := kb.cell (i := 2) rfl
                have t0 := kk.cell (i := 0) rfl
                have t1 := kk.cell (i := 1) rfl
                have t2 := kk.cell (i := 2) rfl
                clear hb
                go_wp2_with fail
                have hcall := Zip_any pw ph a c n xs hn pw ph a' c' n ys hn' 1 (by decide) (by decide) _ (by omega) (by omega) ((hr.below (Nat.le_refl _) hB).mono hB.size) ((hr'.below (Nat.le_refl _) hB).mono hB.size)
                rw [hSS.out] at hcall
                refine hcall.mono ?_
                clear hcall
                rintro e V7 ⟨⟨v, hev, sl, hvl, hrow⟩, hb⟩
                have rS : V7.ownsRow w.heap.size 3 1 sl n ((S).map (Value.int .i64)) := row_base (row_len (k := (S).length) hlS.out hrow) hB.size
                obtain ⟨srSa, srSc, rfl⟩ := row_slice rS
                have he : e = .returned (.tuple #[.agg #[.int .i64 pw, .int .i64 ph, .slice srSa n srSc], .int .i64 0]) := by rw [hev, hvl]
                subst he
                clear hrow hev hvl
                clear m0 m1 m2 s0 s1 s2 t0 t1 t2
                replace ka := ka.below hb ka.lt
                replace kb := kb.below hb kb.lt
                replace kk := kk.below hb kk.lt
                replace hB := hB.trans (hb.mono hB.size)
                have m0 := ka.cell (i := 0) rfl
                have m1 := ka.cell (i := 1) rfl
                have m2 := ka.cell (i := 2) rfl
                have s0 := kb.cell (i := 0) rfl
                have s1 := kb.cell (i := 1) rfl
                have s2 := kb.cell (i := 2) rfl
                have t0 := kk.cell (i := 0) rfl
                have t1 := kk.cell (i := 1) rfl
                have t2 := kk.cell (i := 2) rfl
                clear hb
                obtain ⟨V8, hW⟩ : ∃ V8, V7.alloc (.cells #[.int .i64 pw, .int .i64 ph, .slice srSa n srSc] 24) = V8 := ⟨_, rfl⟩
                obtain ⟨bkS, hbx⟩ : ∃ bkS, V7.heap.size = bkS := ⟨_, rfl⟩
                have kS := Blk.new V7 24 #[.int .i64 pw, .int .i64 ph, .slice srSa n srSc]
                rw [hW, hbx] at kS
                have hb : Below V7.heap.size V7 V8 := alloc_below hW
                have ka' := ka.below hb ka.lt
                have lkakS := ka.lt
                rw [hbx] at lkakS
                have kb' := kb.below hb kb.lt
                have lkbkS := kb.lt
                rw [hbx] at lkbkS
                have kk' := kk.below hb kk.lt
                have lkkkS := kk.lt
                rw [hbx] at lkkkS
                have m0' := ka'.cell (i := 0) rfl
                have m1' := ka'.cell (i := 1) rfl
                have m2' := ka'.cell (i := 2) rfl
                have s0' := kb'.cell (i := 0) rfl
                have s1' := kb'.cell (i := 1) rfl
                have s2' := kb'.cell (i := 2) rfl
                have t0' := kk'.cell (i := 0) rfl
                have t1' := kk'.cell (i := 1) rfl
                have t2' := kk'.cell (i := 2) rfl
                have xs0 := kS.cell (i := 0) rfl
                have xs1 := kS.cell (i := 1) rfl
                have xs2 := kS.cell (i := 2) rfl
                have fxs0 := kS.frozen 0
                have fxs1 := kS.frozen 1
                have fxs2 := kS.frozen 2
                go_wp2_with fail
                clear hW
                clear hbx
                clear m0 m1 m2 s0 s1 s2 t0 t1 t2
                clear m0' m1' m2' s0' s1' s2' t0' t1' t2'
                replace ka := ka'
                clear ka'
                replace kb := kb'
                clear kb'
                replace kk := kk'
                clear kk'
                have m0 := ka.cell (i := 0) rfl
                have m1 := ka.cell (i := 1) rfl
                have m2 := ka.cell (i := 2) rfl
                have s0 := kb.cell (i := 0) rfl
                have s1 := kb.cell (i := 1) rfl
                have s2 := kb.cell (i := 2) rfl
                have t0 := kk.cell (i := 0) rfl
                have t1 := kk.cell (i := 1) rfl
                have t2 := kk.cell (i := 2) rfl
                replace rS := row_below rS hb
                replace hB := hB.trans (hb.mono hB.size)
                clear hb
                have hcall := Convolve_any pw ph srSa srSc n S hlS kw kh ak ck nk taps hkn bd (by omega) (by omega) _ (by omega) (row_rd' hlS.out rS) (by omega) ((hrk.below (Nat.le_refl _) hB).mono hB.size)
                rw [hSX.out] at hcall
                refine hcall.mono ?_
                clear hcall
                rintro e V9 ⟨⟨v, hev, sl, hvl, hrow⟩, hb⟩
                have rX : V9.ownsRow w.heap.size 3 1 sl n ((X).map (Value.int .i64)) := row_base (row_len (k := (X).length) hlX.out hrow) hB.size
                obtain ⟨srXa, srXc, rfl⟩ := row_slice rX
                have he : e = .returned (.tuple #[.agg #[.int .i64 pw, .int .i64 ph, .slice srXa n srXc], .int .i64 0]) := by rw [hev, hvl]
                subst he
                clear hrow hev hvl
                clear m0 m1 m2 s0 s1 s2 t0 t1 t2 xs0 xs1 xs2 fxs0 fxs1 fxs2
                replace ka := ka.below hb ka.lt
                replace kb := kb.below hb kb.lt
                replace kk := kk.below hb kk.lt
                replace kS := kS.below hb kS.lt
                replace rS := row_below rS hb
                replace hB := hB.trans (hb.mono hB.size)
                have m0 := ka.cell (i := 0) rfl
                have m1 := ka.cell (i := 1) rfl
                have m2 := ka.cell (i := 2) rfl
                have s0 := kb.cell (i := 0) rfl
                have s1 := kb.cell (i := 1) rfl
                have s2 := kb.cell (i := 2) rfl
                have t0 := kk.cell (i := 0) rfl
                have t1 := kk.cell (i := 1) rfl
                have t2 := kk.cell (i := 2) rfl
                have xs0 := kS.cell (i := 0) rfl
                have xs1 := kS.cell (i := 1) rfl
                have xs2 := kS.cell (i := 2) rfl
                have fxs0 := kS.frozen 0
                have fxs1 := kS.frozen 1
                have fxs2 := kS.frozen 2
                clear hb
                obtain ⟨V10, hW⟩ : ∃ V10, V9.alloc (.cells #[.int .i64 pw, .int .i64 ph, .slice srXa n srXc] 24) = V10 := ⟨_, rfl⟩
                obtain ⟨bkX, hbx⟩ : ∃ bkX, V9.heap.size = bkX := ⟨_, rfl⟩
                have kX := Blk.new V9 24 #[.int .i64 pw, .int .i64 ph, .slice srXa n srXc]
                rw [hW, hbx] at kX
                have hb : Below V9.heap.size V9 V10 := alloc_below hW
                have ka' := ka.below hb ka.lt
                have lkakX := ka.lt
                rw [hbx] at lkakX
                have kb' := kb.below hb kb.lt
                have lkbkX := kb.lt
                rw [hbx] at lkbkX
                have kk' := kk.below hb kk.lt
                have lkkkX := kk.lt
                rw [hbx] at lkkkX
                have kS' := kS.below hb kS.lt
                have lkSkX := kS.lt
                rw [hbx] at lkSkX
                have m0' := ka'.cell (i := 0) rfl
                have m1' := ka'.cell (i := 1) rfl
                have m2' := ka'.cell (i := 2) rfl
                have s0' := kb'.cell (i := 0) rfl
                have s1' := kb'.cell (i := 1) rfl
                have s2' := kb'.cell (i := 2) rfl
                have t0' := kk'.cell (i := 0) rfl
                have t1' := kk'.cell (i := 1) rfl
                have t2' := kk'.cell (i := 2) rfl
                have xs0' := kS'.cell (i := 0) rfl
                have xs1' := kS'.cell (i := 1) rfl
                have xs2' := kS'.cell (i := 2) rfl
                have fxs0' := kS'.frozen 0
                have fxs1' := kS'.frozen 1
                have fxs2' := kS'.frozen 2
                have xx0 := kX.cell (i := 0) rfl
                have xx1 := kX.cell (i := 1) rfl
                have xx2 := kX.cell (i := 2) rfl
                have fxx0 := kX.frozen 0
                have fxx1 := kX.frozen 1
                have fxx2 := kX.frozen 2
                go_wp2_with fail
                clear hW
                clear hbx
                clear m0 m1 m2 s0 s1 s2 t0 t1 t2 xs0 xs1 xs2 fxs0 fxs1 fxs2
                clear m0' m1' m2' s0' s1' s2' t0' t1' t2' xs0' xs1' xs2' fxs0' fxs1' fxs2'
                replace ka := ka'
                clear ka'
                replace kb := kb'
                clear kb'
                replace kk := kk'
                clear kk'
                replace kS := kS'
                clear kS'
                have m0 := ka.cell (i := 0) rfl
                have m1 := ka.cell (i := 1) rfl
                have m2 := ka.cell (i := 2) rfl
                have s0 := kb.cell (i := 0) rfl
                have s1 := kb.cell (i := 1) rfl
                have s2 := kb.cell (i := 2) rfl
                have t0 := kk.cell (i := 0) rfl
                have t1 := kk.cell (i := 1) rfl
                have t2 := kk.cell (i := 2) rfl
                have xs0 := kS.cell (i := 0) rfl
                have xs1 := kS.cell (i := 1) rfl
                have xs2 := kS.cell (i := 2) rfl
                have fxs0 := kS.frozen 0
                have fxs1 := kS.frozen 1
                have fxs2 := kS.frozen 2
                replace rS := row_below rS hb
                replace rX := row_below rX hb
                replace hB := hB.trans (hb.mono hB.size)
                clear hb
                have hcall := Convolve_any pw ph a c n xs hn kw kh ak ck nk taps hkn bd (by omega) (by omega) _ (by omega) ((hr.below (Nat.le_refl _) hB).mono hB.size) (by omega) ((hrk.below (Nat.le_refl _) hB).mono hB.size)
                rw [hSP.out] at hcall
                refine hcall.mono ?_
                clear hcall
                rintro e V11 ⟨⟨v, hev, sl, hvl, hrow⟩, hb⟩
                have rP : V11.ownsRow w.heap.size 3 1 sl n ((P).map (Value.int .i64)) := row_base (row_len (k := (P).length) hlP.out hrow) hB.size
                obtain ⟨srPa, srPc, rfl⟩ := row_slice rP
                have he : e = .returned (.tuple #[.agg #[.int .i64 pw, .int .i64 ph, .slice srPa n srPc], .int .i64 0]) := by rw [hev, hvl]
                subst he
                clear hrow hev hvl
                clear m0 m1 m2 s0 s1 s2 t0 t1 t2 xs0 xs1 xs2 fxs0 fxs1 fxs2 xx0 xx1 xx2 fxx0 fxx1 fxx2
                replace ka := ka.below hb ka.lt
                replace kb := kb.below hb kb.lt
                replace kk := kk.below hb kk.lt
                replace kS := kS.below hb kS.lt
                replace kX := kX.below hb kX.lt
                replace rS := row_below rS hb
                replace rX := row_below rX hb
                replace hB := hB.trans (hb.mono hB.size)
                have m0 := ka.cell (i := 0) rfl
                have m1 := ka.cell (i := 1) rfl
                have m2 := ka.cell (i := 2) rfl
                have s0 := kb.cell (i := 0) rfl
                have s1 := kb.cell (i := 1) rfl
                have s2 := kb.cell (i := 2) rfl
                have t0 := kk.cell (i := 0) rfl
                have t1 := kk.cell (i := 1) rfl
                have t2 := kk.cell (i := 2) rfl
                have xs0 := kS.cell (i := 0) rfl
                have xs1 := kS.cell (i := 1) rfl
                have xs2 := kS.cell (i := 2) rfl
                have fxs0 := kS.frozen 0
                have fxs1 := kS.frozen 1
                have fxs2 := kS.frozen 2
                have xx0 := kX.cell (i := 0) rfl
                have xx1 := kX.cell (i := 1) rfl
                have xx2 := kX.cell (i := 2) rfl
                have fxx0 := kX.frozen 0
                have fxx1 := kX.frozen 1
                have fxx2 := kX.frozen 2
                clear hb
                obtain ⟨V12, hW⟩ : ∃ V12, V11.alloc (.cells #[.int .i64 pw, .int .i64 ph, .slice srPa n srPc] 24) = V12 := ⟨_, rfl⟩
                obtain ⟨bkP, hbx⟩ : ∃ bkP, V11.heap.size = bkP := ⟨_, rfl⟩
                have kP := Blk.new V11 24 #[.int .i64 pw, .int .i64 ph, .slice srPa n srPc]
                rw [hW, hbx] at kP
                have hb : Below V11.heap.size V11 V12 := alloc_below hW
                have ka' := ka.below hb ka.lt
                have lkakP := ka.lt
                rw [hbx] at lkakP
                have kb' := kb.below hb kb.lt
                have lkbkP := kb.lt
                rw [hbx] at lkbkP
                have kk' := kk.below hb kk.lt
                have lkkkP := kk.lt
                rw [hbx] at lkkkP
                have kS' := kS.below hb kS.lt
                have lkSkP := kS.lt
                rw [hbx] at lkSkP
                have kX' := kX.below hb kX.lt
                have lkXkP := kX.lt
                rw [hbx] at lkXkP
                have m0' := ka'.cell (i := 0) rfl
                have m1' := ka'.cell (i := 1) rfl
                have m2' := ka'.cell (i := 2) rfl
                have s0' := kb'.cell (i := 0) rfl
                have s1' := kb'.cell (i := 1) rfl
                have s2' := kb'.cell (i := 2) rfl
                have t0' := kk'.cell (i := 0) rfl
                have t1' := kk'.cell (i := 1) rfl
                have t2' := kk'.cell (i := 2) rfl
                have xs0' := kS'.cell (i := 0) rfl
                have xs1' := kS'.cell (i := 1) rfl
                have xs2' := kS'.cell (i := 2) rfl
                have fxs0' := kS'.frozen 0
                have fxs1' := kS'.frozen 1
                have fxs2' := kS'.frozen 2
                have xx0' := kX'.cell (i := 0) rfl
                have xx1' := kX'.cell (i := 1) rfl
                have xx2' := kX'.cell (i := 2) rfl
                have fxx0' := kX'.frozen 0
                have fxx1' := kX'.frozen 1
                have fxx2' := kX'.frozen 2
                have xp0 := kP.cell (i := 0) rfl
                have xp1 := kP.cell (i := 1) rfl
                have xp2 := kP.cell (i := 2) rfl
                have fxp0 := kP.frozen 0
                have fxp1 := kP.frozen 1
                have fxp2 := kP.frozen 2
                go_wp2_with fail
                clear hW
                clear hbx
                clear m0 m1 m2 s0 s1 s2 t0 t1 t2 xs0 xs1 xs2 fxs0 fxs1 fxs2 xx0 xx1 xx2 fxx0 fxx1 fxx2
                clear m0' m1' m2' s0' s1' s2' t0' t1' t2' xs0' xs1' xs2' fxs0' fxs1' fxs2' xx0' xx1' xx2' fxx0' fxx1' fxx2'
                replace ka := ka'
                clear ka'
                replace kb := kb'
                clear kb'
                replace kk := kk'
                clear kk'
                replace kS := kS'
                clear kS'
                replace kX := kX'
                clear kX'
                have m0 := ka.cell (i := 0) rfl
                have m1 := ka.cell (i := 1) rfl
                have m2 := ka.cell (i := 2) rfl
                have s0 := kb.cell (i := 0) rfl
                have s1 := kb.cell (i := 1) rfl
                have s2 := kb.cell (i := 2) rfl
                have t0 := kk.cell (i := 0) rfl
                have t1 := kk.cell (i := 1) rfl
                have t2 := kk.cell (i := 2) rfl
                have xs0 := kS.cell (i := 0) rfl
                have xs1 := kS.cell (i := 1) rfl
                have xs2 := kS.cell (i := 2) rfl
                have fxs0 := kS.frozen 0
                have fxs1 := kS.frozen 1
                have fxs2 := kS.frozen 2
                have xx0 := kX.cell (i := 0) rfl
                have xx1 := kX.cell (i := 1) rfl
                have xx2 := kX.cell (i := 2) rfl
                have fxx0 := kX.frozen 0
                have fxx1 := kX.frozen 1
                have fxx2 := kX.frozen 2
                replace rS := row_below rS hb
                replace rX := row_below rX hb
                replace rP := row_below rP hb
                replace hB := hB.trans (hb.mono hB.size)
                clear hb
                have hcall := Convolve_any pw ph a' c' n ys hn' kw kh ak ck nk taps hkn bd (by omega) (by omega) _ (by omega) ((hr'.below (Nat.le_refl _) hB).mono hB.size) (by omega) ((hrk.below (Nat.le_refl _) hB).mono hB.size)
                rw [hSQ.out] at hcall
                refine hcall.mono ?_
                clear hcall
                rintro e V13 ⟨⟨v, hev, sl, hvl, hrow⟩, hb⟩
                have rQ : V13.ownsRow w.heap.size 3 1 sl n ((Q).map (Value.int .i64)) := row_base (row_len (k := (Q).length) hlQ.out hrow) hB.size
                obtain ⟨srQa, srQc, rfl⟩ := row_slice rQ
                have he : e = .returned (.tuple #[.agg #[.int .i64 pw, .int .i64 ph, .slice srQa n srQc], .int .i64 0]) := by rw [hev, hvl]
                subst he
                clear hrow hev hvl
                clear m0 m1 m2 s0 s1 s2 t0 t1 t2 xs0 xs1 xs2 fxs0 fxs1 fxs2 xx0 xx1 xx2 fxx0 fxx1 fxx2 xp0 xp1 xp2 fxp0 fxp1 fxp2
                replace ka := ka.below hb ka.lt
                replace kb := kb.below hb kb.lt
                replace kk := kk.below hb kk.lt
                replace kS := kS.below hb kS.lt
                replace kX := kX.below hb kX.lt
                replace kP := kP.below hb kP.lt
                replace rS := row_below rS hb
                replace rX := row_below rX hb
                replace rP := row_below rP hb
                replace hB := hB.trans (hb.mono hB.size)
                have m0 := ka.cell (i := 0) rfl
                have m1 := ka.cell (i := 1) rfl
                have m2 := ka.cell (i := 2) rfl
                have s0 := kb.cell (i := 0) rfl
                have s1 := kb.cell (i := 1) rfl
                have s2 := kb.cell (i := 2) rfl
                have t0 := kk.cell (i := 0) rfl
                have t1 := kk.cell (i := 1) rfl
                have t2 := kk.cell (i := 2) rfl
                have xs0 := kS.cell (i := 0) rfl
                have xs1 := kS.cell (i := 1) rfl
                have xs2 := kS.cell (i := 2) rfl
                have fxs0 := kS.frozen 0
                have fxs1 := kS.frozen 1
                have fxs2 := kS.frozen 2
                have xx0 := kX.cell (i := 0) rfl
                have xx1 := kX.cell (i := 1) rfl
                have xx2 := kX.cell (i := 2) rfl
                have fxx0 := kX.frozen 0
                have fxx1 := kX.frozen 1
                have fxx2 := kX.frozen 2
                have xp0 := kP.cell (i := 0) rfl
                have xp1 := kP.cell (i := 1) rfl
                have xp2 := kP.cell (i := 2) rfl
                have fxp0 := kP.frozen 0
                have fxp1 := kP.frozen 1
                have fxp2 := kP.frozen 2
                clear hb
                obtain ⟨V14, hW⟩ : ∃ V14, V13.alloc (.cells #[.int .i64 pw, .int .i64 ph, .slice srQa n srQc] 24) = V14 := ⟨_, rfl⟩
                obtain ⟨bkQ, hbx⟩ : ∃ bkQ, V13.heap.size = bkQ := ⟨_, rfl⟩
                have kQ := Blk.new V13 24 #[.int .i64 pw, .int .i64 ph, .slice srQa n srQc]
                rw [hW, hbx] at kQ
                have hb : Below V13.heap.size V13 V14 := alloc_below hW
                have ka' := ka.below hb ka.lt
                have lkakQ := ka.lt
                rw [hbx] at lkakQ
                have kb' := kb.below hb kb.lt
                have lkbkQ := kb.lt
                rw [hbx] at lkbkQ
                have kk' := kk.below hb kk.lt
                have lkkkQ := kk.lt
                rw [hbx] at lkkkQ
                have kS' := kS.below hb kS.lt
                have lkSkQ := kS.lt
                rw [hbx] at lkSkQ
                have kX' := kX.below hb kX.lt
                have lkXkQ := kX.lt
                rw [hbx] at lkXkQ
                have kP' := kP.below hb kP.lt
                have lkPkQ := kP.lt
                rw [hbx] at lkPkQ
                have m0' := ka'.cell (i := 0) rfl
                have m1' := ka'.cell (i := 1) rfl
                have m2' := ka'.cell (i := 2) rfl
                have s0' := kb'.cell (i := 0) rfl
                have s1' := kb'.cell (i := 1) rfl
                have s2' := kb'.cell (i := 2) rfl
                have t0' := kk'.cell (i := 0) rfl
                have t1' := kk'.cell (i := 1) rfl
                have t2' := kk'.cell (i := 2) rfl
                have xs0' := kS'.cell (i := 0) rfl
                have xs1' := kS'.cell (i := 1) rfl
                have xs2' := kS'.cell (i := 2) rfl
                have fxs0' := kS'.frozen 0
                have fxs1' := kS'.frozen 1
                have fxs2' := kS'.frozen 2
                have xx0' := kX'.cell (i := 0) rfl
                have xx1' := kX'.cell (i := 1) rfl
                have xx2' := kX'.cell (i := 2) rfl
                have fxx0' := kX'.frozen 0
                have fxx1' := kX'.frozen 1
                have fxx2' := kX'.frozen 2
                have xp0' := kP'.cell (i := 0) rfl
                have xp1' := kP'.cell (i := 1) rfl
                have xp2' := kP'.cell (i := 2) rfl
                have fxp0' := kP'.frozen 0
                have fxp1' := kP'.frozen 1
                have fxp2' := kP'.frozen 2
                have xq0 := kQ.cell (i := 0) rfl
                have xq1 := kQ.cell (i := 1) rfl
                have xq2 := kQ.cell (i := 2) rfl
                have fxq0 := kQ.frozen 0
                have fxq1 := kQ.frozen 1
                have fxq2 := kQ.frozen 2
                go_wp2_with fail
                clear hW
                clear hbx
                clear m0 m1 m2 s0 s1 s2 t0 t1 t2 xs0 xs1 xs2 fxs0 fxs1 fxs2 xx0 xx1 xx2 fxx0 fxx1 fxx2 xp0 xp1 xp2 fxp0 fxp1 fxp2
                clear m0' m1' m2' s0' s1' s2' t0' t1' t2' xs0' xs1' xs2' fxs0' fxs1' fxs2' xx0' xx1' xx2' fxx0' fxx1' fxx2' xp0' xp1' xp2' fxp0' fxp1' fxp2'
                replace ka := ka'
                clear ka'
                replace kb := kb'
                clear kb'
                replace kk := kk'
                clear kk'
                replace kS := kS'
                clear kS'
                replace kX := kX'
                clear kX'
                replace kP := kP'
                clear kP'
                have m0 := ka.cell (i := 0) rfl
                have m1 := ka.cell (i := 1) rfl
                have m2 := ka.cell (i := 2) rfl
                have s0 := kb.cell (i := 0) rfl
                have s1 := kb.cell (i := 1) rfl
                have s2 := kb.cell (i := 2) rfl
                have t0 := kk.cell (i := 0) rfl
                have t1 := kk.cell (i := 1) rfl
                have t2 := kk.cell (i := 2) rfl
                have xs0 := kS.cell (i := 0) rfl
                have xs1 := kS.cell (i := 1) rfl
                have xs2 := kS.cell (i := 2) rfl
                have fxs0 := kS.frozen 0
                have fxs1 := kS.frozen 1
                have fxs2 := kS.frozen 2
                have xx0 := kX.cell (i := 0) rfl
                have xx1 := kX.cell (i := 1) rfl
                have xx2 := kX.cell (i := 2) rfl
                have fxx0 := kX.frozen 0
                have fxx1 := kX.frozen 1
                have fxx2 := kX.frozen 2
                have xp0 := kP.cell (i := 0) rfl
                have xp1 := kP.cell (i := 1) rfl
                have xp2 := kP.cell (i := 2) rfl
                have fxp0 := kP.frozen 0
                have fxp1 := kP.frozen 1
                have fxp2 := kP.frozen 2
                replace rS := row_below rS hb
                replace rX := row_below rX hb
                replace rP := row_below rP hb
                replace rQ := row_below rQ hb
                replace hB := hB.trans (hb.mono hB.size)
                clear hb
                have hcall := Zip_any pw ph srPa srPc n P hlP pw ph srQa srQc n Q hlQ 1 (by decide) (by decide) _ (by omega) (by omega) (row_rd' hlP.out rP) (row_rd' hlQ.out rQ)
                rw [hSY.out] at hcall
                refine hcall.mono ?_
                clear hcall
                rintro e V15 ⟨⟨v, hev, sl, hvl, hrow⟩, hb⟩
                have rY : V15.ownsRow w.heap.size 3 1 sl n ((X).map (Value.int .i64)) := row_base (row_len (k := (X).length) hlX.out hrow) hB.size
                obtain ⟨srYa, srYc, rfl⟩ := row_slice rY
                have he : e = .returned (.tuple #[.agg #[.int .i64 pw, .int .i64 ph, .slice srYa n srYc], .int .i64 0]) := by rw [hev, hvl]
                subst he
                clear hrow hev hvl
                clear m0 m1 m2 s0 s1 s2 t0 t1 t2 xs0 xs1 xs2 fxs0 fxs1 fxs2 xx0 xx1 xx2 fxx0 fxx1 fxx2 xp0 xp1 xp2 fxp0 fxp1 fxp2 xq0 xq1 xq2 fxq0 fxq1 fxq2
                replace ka := ka.below hb ka.lt
                replace kb := kb.below hb kb.lt
                replace kk := kk.below hb kk.lt
                replace kS := kS.below hb kS.lt
                replace kX := kX.below hb kX.lt
                replace kP := kP.below hb kP.lt
                replace kQ := kQ.below hb kQ.lt
                replace rS := row_below rS hb
                replace rX := row_below rX hb
                replace rP := row_below rP hb
                replace rQ := row_below rQ hb
                replace hB := hB.trans (hb.mono hB.size)
                have m0 := ka.cell (i := 0) rfl
                have m1 := ka.cell (i := 1) rfl
                have m2 := ka.cell (i := 2) rfl
                have s0 := kb.cell (i := 0) rfl
                have s1 := kb.cell (i := 1) rfl
                have s2 := kb.cell (i := 2) rfl
                have t0 := kk.cell (i := 0) rfl
                have t1 := kk.cell (i := 1) rfl
                have t2 := kk.cell (i := 2) rfl
                have xs0 := kS.cell (i := 0) rfl
                have xs1 := kS.cell (i := 1) rfl
                have xs2 := kS.cell (i := 2) rfl
                have fxs0 := kS.frozen 0
                have fxs1 := kS.frozen 1
                have fxs2 := kS.frozen 2
                have xx0 := kX.cell (i := 0) rfl
                have xx1 := kX.cell (i := 1) rfl
                have xx2 := kX.cell (i := 2) rfl
                have fxx0 := kX.frozen 0
                have fxx1 := kX.frozen 1
                have fxx2 := kX.frozen 2
                have xp0 := kP.cell (i := 0) rfl
                have xp1 := kP.cell (i := 1) rfl
                have xp2 := kP.cell (i := 2) rfl
                have fxp0 := kP.frozen 0
                have fxp1 := kP.frozen 1
                have fxp2 := kP.frozen 2
                have xq0 := kQ.cell (i := 0) rfl
                have xq1 := kQ.cell (i := 1) rfl
                have xq2 := kQ.cell (i := 2) rfl
                have fxq0 := kQ.frozen 0
                have fxq1 := kQ.frozen 1
                have fxq2 := kQ.frozen 2
                clear hb
                obtain ⟨V16, hW⟩ : ∃ X, V15.alloc (.cells #[.int .i64 pw, .int .i64 ph, .slice srYa n srYc] 24) = X := ⟨_, rfl⟩
                obtain ⟨bkY, hbx⟩ : ∃ b, V15.heap.size = b := ⟨_, rfl⟩
                have kY := Blk.new V15 24 #[.int .i64 pw, .int .i64 ph, .slice srYa n srYc]
                rw [hW, hbx] at kY
                have hb : Below V15.heap.size V15 V16 := alloc_below hW
                have hgo : ∀ i, V16.frozen? ⟨bkY, i, none⟩ = false := fun i => kY.frozen i
                have y0 := kY.cell (i := 0) rfl
                have y1 := kY.cell (i := 1) rfl
                have y2 := kY.cell (i := 2) rfl
                go_upto_region 9 with fail
                clear hW hbx hgo y0 y1 y2
                clear m0 m1 m2 s0 s1 s2 t0 t1 t2 xs0 xs1 xs2 fxs0 fxs1 fxs2 xx0 xx1 xx2 fxx0 fxx1 fxx2 xp0 xp1 xp2 fxp0 fxp1 fxp2 xq0 xq1 xq2 fxq0 fxq1 fxq2
                replace ka := ka.below hb ka.lt
                replace kb := kb.below hb kb.lt
                replace kk := kk.below hb kk.lt
                replace kS := kS.below hb kS.lt
                replace kX := kX.below hb kX.lt
                replace kP := kP.below hb kP.lt
                replace kQ := kQ.below hb kQ.lt
                replace rS := row_below rS hb
                replace rX := row_below rX hb
                replace rP := row_below rP hb
                replace rQ := row_below rQ hb
                replace rY := row_below rY hb
                replace hB := hB.trans (hb.mono hB.size)
                have m0 := ka.cell (i := 0) rfl
                have m1 := ka.cell (i := 1) rfl
                have m2 := ka.cell (i := 2) rfl
                have s0 := kb.cell (i := 0) rfl
                have s1 := kb.cell (i := 1) rfl
                have s2 := kb.cell (i := 2) rfl
                have t0 := kk.cell (i := 0) rfl
                have t1 := kk.cell (i := 1) rfl
                have t2 := kk.cell (i := 2) rfl
                have xs0 := kS.cell (i := 0) rfl
                have xs1 := kS.cell (i := 1) rfl
                have xs2 := kS.cell (i := 2) rfl
                have fxs0 := kS.frozen 0
                have fxs1 := kS.frozen 1
                have fxs2 := kS.frozen 2
                have xx0 := kX.cell (i := 0) rfl
                have xx1 := kX.cell (i := 1) rfl
                have xx2 := kX.cell (i := 2) rfl
                have fxx0 := kX.frozen 0
                have fxx1 := kX.frozen 1
                have fxx2 := kX.frozen 2
                have xp0 := kP.cell (i := 0) rfl
                have xp1 := kP.cell (i := 1) rfl
                have xp2 := kP.cell (i := 2) rfl
                have fxp0 := kP.frozen 0
                have fxp1 := kP.frozen 1
                have fxp2 := kP.frozen 2
                have xq0 := kQ.cell (i := 0) rfl
                have xq1 := kQ.cell (i := 1) rfl
                have xq2 := kQ.cell (i := 2) rfl
                have fxq0 := kQ.frozen 0
                have fxq1 := kQ.frozen 1
                have fxq2 := kQ.frozen 2
                clear hb
                clear m0 m1 m2 s0 s1 s2 t0 t1 t2 xs0 xs1 xs2 fxs0 fxs1 fxs2 xx0 xx1 xx2 fxx0 fxx1 fxx2 xp0 xp1 xp2 fxp0 fxp1 fxp2 xq0 xq1 xq2 fxq0 fxq1 fxq2
                go_cut [20, 21] (fun s20 s21 wx => ∃ (bz : Nat) (sza : Option Addr) (szc : Nat), s20 = .pointer (some ⟨bz, 0, none⟩) ∧ s21 = .int .i64 0 ∧ Blk wx bz 24 #[.int .i64 pw, .int .i64 ph, .slice sza n szc] ∧ wx.ownsRow w.heap.size 3 1 (.slice sza n szc) n (xs.map (Value.int .i64)) ∧ Below V16.heap.size V16 wx)
                case first =>
                  have hS : Below V16.heap.size V16 V16.drew := (Below.refl _ _).drew
                  refine plain_region (fun W' => Below V16.heap.size V16 W') 11 11 (by kernel_rfl) rfl ?_
                  simp only [Array.replicate_succ, Array.replicate_zero, List.push_toArray, List.nil_append, List.cons_append]
                  obtain ⟨X0, hX0⟩ : ∃ X, V16.drew = X := ⟨_, rfl⟩
                  rw [hX0] at hS ⊢
                  clear hX0
                  refine take_op 0 (v := ?r1v) rfl (by kernel_rfl) (fun _ _ _ h => h) (by rfl) hS (fun w' hS' => ?r1y) ?r1z
                  case r1y =>
                    have c0 := (ka.below hS' ka.lt).cell (i := 0) rfl
                    have c1 := (ka.below hS' ka.lt).cell (i := 1) rfl
                    have c2 := (ka.below hS' ka.lt).cell (i := 2) rfl
                    go_simp
                    rfl
                  simp only [List.setIfInBounds_toArray, List.set_cons_zero, List.set_cons_succ]
                  refine take_op 3 (v := ?r2v) rfl (by kernel_rfl) (fun _ _ _ h => h) (by rfl) hS (fun w' hS' => ?r2y) ?r2z
                  case r2y =>
                    go_simp
                    rfl
                  simp only [List.setIfInBounds_toArray, List.set_cons_zero, List.set_cons_succ]
                  refine fork2 (i := 1) (j := 8) (by kernel_rfl) ?_ ?_
                  · refine step_at 1 rfl (fun K hK => ?_)
                    rw [if_pos (by rfl)]
                    go_simp
                    have kt := Blk.new X0 3 #[.int .i64 1]
                    obtain ⟨bt, hbt⟩ : ∃ b, X0.heap.size = b := ⟨_, rfl⟩
                    rw [hbt] at kt
                    try rw [hbt]
                    have hS1' := below_al hS (.cells #[.int .i64 1] 3)
                    obtain ⟨X1, hX1⟩ : ∃ X, X0.alloc (.cells #[.int .i64 1] 3) = X := ⟨_, rfl⟩
                    rw [hX1] at kt hS1' ⊢
                    have hS1 := hS1'
                    clear hS1' hX1 hbt
                    refine hK.out _ _ (fun h => hS1) ?_
                    clear hK K
                    try simp only [Act.put, List.setIfInBounds_toArray, List.set_cons_zero, List.set_cons_succ]
                    refine fork2 (i := 2) (j := 8) (by kernel_rfl) ?_ ?_
                    · refine step_at 2 rfl (fun K hK => ?_)
                      rw [if_pos (by rfl)]
                      go_simp
                      refine (line_any (some ⟨bt, 0, none⟩) 1 1 _).mono ?_
                      rintro e X2 ⟨rfl, hb⟩
                      replace kt := kt.below hb kt.lt
                      have hS2 := hS1.trans (hb.mono hS1.size)
                      clear hb
                      refine hK.out _ _ (fun h => hS2) ?_
                      clear hK K
                      try simp only [Act.put, List.setIfInBounds_toArray, List.set_cons_zero, List.set_cons_succ]
                      refine fork2 (i := 4) (j := 8) (by kernel_rfl) ?_ ?_
                      · refine step_at 4 rfl (fun K hK => ?_)
                        rw [if_pos (by rfl)]
                        go_simp
                        have hcall := Convolve_any pw ph a c n xs hn 1 1 (some ⟨bt, 0, none⟩) 1 1 [1] (Lib.hid rfl) bd (by omega) (by omega) X2 (by omega) ((hr.below (Nat.le_refl _) (hB.trans (hS2.mono hB.size))).mono (Nat.le_trans hB.size hS2.size)) (by decide) (.inr ⟨bt, 0, rfl, kt.lt, fun i hi => rd_litH kt rfl i hi⟩)
                        rw [hSZ.out] at hcall
                        refine hcall.mono ?_
                        clear hcall
                        rintro e X4 ⟨⟨v, hev, sl, hvl, hrow⟩, hb⟩
                        have rZ : X4.ownsRow w.heap.size 3 1 sl n (xs.map (Value.int .i64)) := row_base (row_len (k := xs.length) hn.out hrow) (Nat.le_trans hB.size hS2.size)
                        obtain ⟨sza, szc, rfl⟩ := row_slice rZ
                        have he : e = .returned (.tuple #[.agg #[.int .i64 pw, .int .i64 ph, .slice sza n szc], .int .i64 0]) := by rw [hev, hvl]
                        subst he
                        clear hev hvl hrow
                        have hS4 := hS2.trans (hb.mono hS2.size)
                        clear hb
                        refine hK.out _ _ (fun h => hS4) ?_
                        clear hK K
                        try simp only [Act.put, List.setIfInBounds_toArray, List.set_cons_zero, List.set_cons_succ]
                        refine take_op 5 (v := ?r3v) rfl (by kernel_rfl) (fun _ _ _ h => h) (by rfl) hS4 (fun w' hS' => ?r3y) ?r3z
                        case r3y =>
                          go_simp
                          rfl
                        simp only [List.setIfInBounds_toArray, List.set_cons_zero, List.set_cons_succ]
                        refine take_op 6 (v := ?r4v) rfl (by kernel_rfl) (fun _ _ _ h => h) (by rfl) hS4 (fun w' hS' => ?r4y) ?r4z
                        case r4y =>
                          go_simp
                          rfl
                        simp only [List.setIfInBounds_toArray, List.set_cons_zero, List.set_cons_succ]
                        refine take_op 7 (v := ?r5v) rfl (by kernel_rfl) (fun _ _ _ h => h) (by rfl) hS4 (fun w' hS' => ?r5y) ?r5z
                        case r5y =>
                          go_simp
                          rfl
                        simp only [List.setIfInBounds_toArray, List.set_cons_zero, List.set_cons_succ]
                        refine step_op 8 (by kernel_rfl) rfl (fun K hK => ?_)
                        rw [if_pos (by rfl)]
                        go_simp
                        have kz := Blk.new X4 24 #[.int .i64 0, .int .i64 0, .slice none 0 0]
                        obtain ⟨bz, hbz⟩ : ∃ b, X4.heap.size = b := ⟨_, rfl⟩
                        have hbzW : V16.heap.size ≤ bz := by have := hS4.size; omega
                        rw [hbz] at kz
                        try rw [hbz]
                        have hS8' := below_al hS4 (.cells #[.int .i64 0, .int .i64 0, .slice none 0 0] 24)
                        replace rZ := rZ.alloc (.cells #[.int .i64 0, .int .i64 0, .slice none 0 0] 24)
                        obtain ⟨X8, hX8⟩ : ∃ X, X4.alloc (.cells #[.int .i64 0, .int .i64 0, .slice none 0 0] 24) = X := ⟨_, rfl⟩
                        rw [hX8] at kz hS8' rZ ⊢
                        have hS8 := hS8'
                        clear hS8' hX8 hbz
                        refine hK.out _ _ (fun h => hS8) ?_
                        clear hK K
                        try simp only [Act.put, List.setIfInBounds_toArray, List.set_cons_zero, List.set_cons_succ]
                        refine step_op 9 (by kernel_rfl) rfl (fun K hK => ?_)
                        have o0 := kz.cell (i := 0) rfl
                        have o1 := kz.cell (i := 1) rfl
                        have o2 := kz.cell (i := 2) rfl
                        have fo0 := kz.frozen 0
                        have fo1 := kz.frozen 1
                        have fo2 := kz.frozen 2
                        have hlbz := kz.lt
                        rw [if_pos (by rfl)]
                        go_simp
                        have hS9 := hS8.trans (put3_below hbzW (.int .i64 pw) (.int .i64 ph) (.slice sza n szc))
                        refine hK.out _ _ (fun h => hS9) ?_
                        clear hK K
                        try simp only [Act.put, List.setIfInBounds_toArray, List.set_cons_zero, List.set_cons_succ]
                        refine take_op 10 (v := ?r6v) rfl (by kernel_rfl) (fun _ _ _ h => h) (by rfl) hS9 (fun w' hS' => ?r6y) ?r6z
                        case r6y =>
                          go_simp
                          rfl
                        simp only [List.setIfInBounds_toArray, List.set_cons_zero, List.set_cons_succ]
                        refine done_ops (by kernel_rfl) ?_
                        go_wp2_with fail
                        go_meet
                        exact ⟨bz, sza, szc, rfl, rfl, put3_blk kz _ _ _, put3_row rZ (kz.not_row (by decide) rZ) _ _ _, hS9⟩
                      · refine step_at 8 rfl (fun K hK => ?_)
                        rw [if_pos (by rfl)]
                        go_simp
                        have kz := Blk.new X2 24 #[.int .i64 0, .int .i64 0, .slice none 0 0]
                        obtain ⟨bz, hbz⟩ : ∃ b, X2.heap.size = b := ⟨_, rfl⟩
                        have hbzW : V16.heap.size ≤ bz := by have := hS2.size; omega
                        rw [hbz] at kz
                        try rw [hbz]
                        have hS8' := below_al hS2 (.cells #[.int .i64 0, .int .i64 0, .slice none 0 0] 24)
                        replace kt := kt.alloc (.cells #[.int .i64 0, .int .i64 0, .slice none 0 0] 24)
                        obtain ⟨X8, hX8⟩ : ∃ X, X2.alloc (.cells #[.int .i64 0, .int .i64 0, .slice none 0 0] 24) = X := ⟨_, rfl⟩
                        rw [hX8] at kz hS8' kt ⊢
                        have hS8 := hS8'
                        clear hS8' hX8 hbz
                        refine hK.out _ _ (fun h => hS8) ?_
                        clear hK K
                        try simp only [Act.put, List.setIfInBounds_toArray, List.set_cons_zero, List.set_cons_succ]
                        refine step_op 4 (by kernel_rfl) rfl (fun K hK => ?_)
                        rw [if_pos (by rfl)]
                        go_simp
                        have hcall := Convolve_any pw ph a c n xs hn 1 1 (some ⟨bt, 0, none⟩) 1 1 [1] (Lib.hid rfl) bd (by omega) (by omega) X8 (by omega) ((hr.below (Nat.le_refl _) (hB.trans (hS8.mono hB.size))).mono (Nat.le_trans hB.size hS8.size)) (by decide) (.inr ⟨bt, 0, rfl, kt.lt, fun i hi => rd_litH kt rfl i hi⟩)
                        rw [hSZ.out] at hcall
                        refine hcall.mono ?_
                        clear hcall
                        rintro e X4 ⟨⟨v, hev, sl, hvl, hrow⟩, hb⟩
                        have rZ : X4.ownsRow w.heap.size 3 1 sl n (xs.map (Value.int .i64)) := row_base (row_len (k := xs.length) hn.out hrow) (Nat.le_trans hB.size hS8.size)
                        obtain ⟨sza, szc, rfl⟩ := row_slice rZ
                        have he : e = .returned (.tuple #[.agg #[.int .i64 pw, .int .i64 ph, .slice sza n szc], .int .i64 0]) := by rw [hev, hvl]
                        subst he
                        clear hev hvl hrow
                        replace kz := kz.below hb kz.lt
                        have hS4 := hS8.trans (hb.mono hS8.size)
                        clear hb
                        refine hK.out _ _ (fun h => hS4) ?_
                        clear hK K
                        try simp only [Act.put, List.setIfInBounds_toArray, List.set_cons_zero, List.set_cons_succ]
                        refine take_op 5 (v := ?r7v) rfl (by kernel_rfl) (fun _ _ _ h => h) (by rfl) hS4 (fun w' hS' => ?r7y) ?r7z
                        case r7y =>
                          go_simp
                          rfl
                        simp only [List.setIfInBounds_toArray, List.set_cons_zero, List.set_cons_succ]
                        refine take_op 6 (v := ?r8v) rfl (by kernel_rfl) (fun _ _ _ h => h) (by rfl) hS4 (fun w' hS' => ?r8y) ?r8z
                        case r8y =>
                          go_simp
                          rfl
                        simp only [List.setIfInBounds_toArray, List.set_cons_zero, List.set_cons_succ]
                        refine take_op 7 (v := ?r9v) rfl (by kernel_rfl) (fun _ _ _ h => h) (by rfl) hS4 (fun w' hS' => ?r9y) ?r9z
                        case r9y =>
                          go_simp
                          rfl
                        simp only [List.setIfInBounds_toArray, List.set_cons_zero, List.set_cons_succ]
                        refine step_op 9 (by kernel_rfl) rfl (fun K hK => ?_)
                        have o0 := kz.cell (i := 0) rfl
                        have o1 := kz.cell (i := 1) rfl
                        have o2 := kz.cell (i := 2) rfl
                        have fo0 := kz.frozen 0
                        have fo1 := kz.frozen 1
                        have fo2 := kz.frozen 2
                        have hlbz := kz.lt
                        rw [if_pos (by rfl)]
                        go_simp
                        have hS9 := hS4.trans (put3_below hbzW (.int .i64 pw) (.int .i64 ph) (.slice sza n szc))
                        refine hK.out _ _ (fun h => hS9) ?_
                        clear hK K
                        try simp only [Act.put, List.setIfInBounds_toArray, List.set_cons_zero, List.set_cons_succ]
                        refine take_op 10 (v := ?r10v) rfl (by kernel_rfl) (fun _ _ _ h => h) (by rfl) hS9 (fun w' hS' => ?r10y) ?r10z
                        case r10y =>
                          go_simp
                          rfl
                        simp only [List.setIfInBounds_toArray, List.set_cons_zero, List.set_cons_succ]
                        refine done_ops (by kernel_rfl) ?_
                        go_wp2_with fail
                        go_meet
                        exact ⟨bz, sza, szc, rfl, rfl, put3_blk kz _ _ _, put3_row rZ (kz.not_row (by decide) rZ) _ _ _, hS9⟩
                    · refine step_at 8 rfl (fun K hK => ?_)
                      rw [if_pos (by rfl)]
                      go_simp
                      have kz := Blk.new X1 24 #[.int .i64 0, .int .i64 0, .slice none 0 0]
                      obtain ⟨bz, hbz⟩ : ∃ b, X1.heap.size = b := ⟨_, rfl⟩
                      have hbzW : V16.heap.size ≤ bz := by have := hS1.size; omega
                      rw [hbz] at kz
                      try rw [hbz]
                      have hS8' := below_al hS1 (.cells #[.int .i64 0, .int .i64 0, .slice none 0 0] 24)
                      replace kt := kt.alloc (.cells #[.int .i64 0, .int .i64 0, .slice none 0 0] 24)
                      obtain ⟨X8, hX8⟩ : ∃ X, X1.alloc (.cells #[.int .i64 0, .int .i64 0, .slice none 0 0] 24) = X := ⟨_, rfl⟩
                      rw [hX8] at kz hS8' kt ⊢
                      have hS8 := hS8'
                      clear hS8' hX8 hbz
                      refine hK.out _ _ (fun h => hS8) ?_
                      clear hK K
                      try simp only [Act.put, List.setIfInBounds_toArray, List.set_cons_zero, List.set_cons_succ]
                      refine step_op 2 (by kernel_rfl) rfl (fun K hK => ?_)
                      rw [if_pos (by rfl)]
                      go_simp
                      refine (line_any (some ⟨bt, 0, none⟩) 1 1 _).mono ?_
                      rintro e X2 ⟨rfl, hb⟩
                      replace kt := kt.below hb kt.lt
                      replace kz := kz.below hb kz.lt
                      have hS2 := hS8.trans (hb.mono hS8.size)
                      clear hb
                      refine hK.out _ _ (fun h => hS2) ?_
                      clear hK K
                      try simp only [Act.put, List.setIfInBounds_toArray, List.set_cons_zero, List.set_cons_succ]
                      refine step_op 4 (by kernel_rfl) rfl (fun K hK => ?_)
                      rw [if_pos (by rfl)]
                      go_simp
                      have hcall := Convolve_any pw ph a c n xs hn 1 1 (some ⟨bt, 0, none⟩) 1 1 [1] (Lib.hid rfl) bd (by omega) (by omega) X2 (by omega) ((hr.below (Nat.le_refl _) (hB.trans (hS2.mono hB.size))).mono (Nat.le_trans hB.size hS2.size)) (by decide) (.inr ⟨bt, 0, rfl, kt.lt, fun i hi => rd_litH kt rfl i hi⟩)
                      rw [hSZ.out] at hcall
                      refine hcall.mono ?_
                      clear hcall
                      rintro e X4 ⟨⟨v, hev, sl, hvl, hrow⟩, hb⟩
                      have rZ : X4.ownsRow w.heap.size 3 1 sl n (xs.map (Value.int .i64)) := row_base (row_len (k := xs.length) hn.out hrow) (Nat.le_trans hB.size hS2.size)
                      obtain ⟨sza, szc, rfl⟩ := row_slice rZ
                      have he : e = .returned (.tuple #[.agg #[.int .i64 pw, .int .i64 ph, .slice sza n szc], .int .i64 0]) := by rw [hev, hvl]
                      subst he
                      clear hev hvl hrow
                      replace kz := kz.below hb kz.lt
                      have hS4 := hS2.trans (hb.mono hS2.size)
                      clear hb
                      refine hK.out _ _ (fun h => hS4) ?_
                      clear hK K
                      try simp only [Act.put, List.setIfInBounds_toArray, List.set_cons_zero, List.set_cons_succ]
                      refine take_op 5 (v := ?r11v) rfl (by kernel_rfl) (fun _ _ _ h => h) (by rfl) hS4 (fun w' hS' => ?r11y) ?r11z
                      case r11y =>
                        go_simp
                        rfl
                      simp only [List.setIfInBounds_toArray, List.set_cons_zero, List.set_cons_succ]
                      refine take_op 6 (v := ?r12v) rfl (by kernel_rfl) (fun _ _ _ h => h) (by rfl) hS4 (fun w' hS' => ?r12y) ?r12z
                      case r12y =>
                        go_simp
                        rfl
                      simp only [List.setIfInBounds_toArray, List.set_cons_zero, List.set_cons_succ]
                      refine take_op 7 (v := ?r13v) rfl (by kernel_rfl) (fun _ _ _ h => h) (by rfl) hS4 (fun w' hS' => ?r13y) ?r13z
                      case r13y =>
                        go_simp
                        rfl
                      simp only [List.setIfInBounds_toArray, List.set_cons_zero, List.set_cons_succ]
                      refine step_op 9 (by kernel_rfl) rfl (fun K hK => ?_)
                      have o0 := kz.cell (i := 0) rfl
                      have o1 := kz.cell (i := 1) rfl
                      have o2 := kz.cell (i := 2) rfl
                      have fo0 := kz.frozen 0
                      have fo1 := kz.frozen 1
                      have fo2 := kz.frozen 2
                      have hlbz := kz.lt
                      rw [if_pos (by rfl)]
                      go_simp
                      have hS9 := hS4.trans (put3_below hbzW (.int .i64 pw) (.int .i64 ph) (.slice sza n szc))
                      refine hK.out _ _ (fun h => hS9) ?_
                      clear hK K
                      try simp only [Act.put, List.setIfInBounds_toArray, List.set_cons_zero, List.set_cons_succ]
                      refine take_op 10 (v := ?r14v) rfl (by kernel_rfl) (fun _ _ _ h => h) (by rfl) hS9 (fun w' hS' => ?r14y) ?r14z
                      case r14y =>
                        go_simp
                        rfl
                      simp only [List.setIfInBounds_toArray, List.set_cons_zero, List.set_cons_succ]
                      refine done_ops (by kernel_rfl) ?_
                      go_wp2_with fail
                      go_meet
                      exact ⟨bz, sza, szc, rfl, rfl, put3_blk kz _ _ _, put3_row rZ (kz.not_row (by decide) rZ) _ _ _, hS9⟩
                  · refine step_at 8 rfl (fun K hK => ?_)
                    rw [if_pos (by rfl)]
                    go_simp
                    have kz := Blk.new X0 24 #[.int .i64 0, .int .i64 0, .slice none 0 0]
                    obtain ⟨bz, hbz⟩ : ∃ b, X0.heap.size = b := ⟨_, rfl⟩
                    have hbzW : V16.heap.size ≤ bz := by have := hS.size; omega
                    rw [hbz] at kz
                    try rw [hbz]
                    have hS8' := below_al hS (.cells #[.int .i64 0, .int .i64 0, .slice none 0 0] 24)
                    obtain ⟨X8, hX8⟩ : ∃ X, X0.alloc (.cells #[.int .i64 0, .int .i64 0, .slice none 0 0] 24) = X := ⟨_, rfl⟩
                    rw [hX8] at kz hS8' ⊢
                    have hS8 := hS8'
                    clear hS8' hX8 hbz
                    refine hK.out _ _ (fun h => hS8) ?_
                    clear hK K
                    try simp only [Act.put, List.setIfInBounds_toArray, List.set_cons_zero, List.set_cons_succ]
                    refine step_op 1 (by kernel_rfl) rfl (fun K hK => ?_)
                    rw [if_pos (by rfl)]
                    go_simp
                    have kt := Blk.new X8 3 #[.int .i64 1]
                    obtain ⟨bt, hbt⟩ : ∃ b, X8.heap.size = b := ⟨_, rfl⟩
                    rw [hbt] at kt
                    try rw [hbt]
                    have hS1' := below_al hS8 (.cells #[.int .i64 1] 3)
                    replace kz := kz.alloc (.cells #[.int .i64 1] 3)
                    obtain ⟨X1, hX1⟩ : ∃ X, X8.alloc (.cells #[.int .i64 1] 3) = X := ⟨_, rfl⟩
                    rw [hX1] at kt hS1' kz ⊢
                    have hS1 := hS1'
                    clear hS1' hX1 hbt
                    refine hK.out _ _ (fun h => hS1) ?_
                    clear hK K
                    try simp only [Act.put, List.setIfInBounds_toArray, List.set_cons_zero, List.set_cons_succ]
                    refine step_op 2 (by kernel_rfl) rfl (fun K hK => ?_)
                    rw [if_pos (by rfl)]
                    go_simp
                    refine (line_any (some ⟨bt, 0, none⟩) 1 1 _).mono ?_
                    rintro e X2 ⟨rfl, hb⟩
                    replace kt := kt.below hb kt.lt
                    replace kz := kz.below hb kz.lt
                    have hS2 := hS1.trans (hb.mono hS1.size)
                    clear hb
                    refine hK.out _ _ (fun h => hS2) ?_
                    clear hK K
                    try simp only [Act.put, List.setIfInBounds_toArray, List.set_cons_zero, List.set_cons_succ]
                    refine step_op 4 (by kernel_rfl) rfl (fun K hK => ?_)
                    rw [if_pos (by rfl)]
                    go_simp
                    have hcall := Convolve_any pw ph a c n xs hn 1 1 (some ⟨bt, 0, none⟩) 1 1 [1] (Lib.hid rfl) bd (by omega) (by omega) X2 (by omega) ((hr.below (Nat.le_refl _) (hB.trans (hS2.mono hB.size))).mono (Nat.le_trans hB.size hS2.size)) (by decide) (.inr ⟨bt, 0, rfl, kt.lt, fun i hi => rd_litH kt rfl i hi⟩)
                    rw [hSZ.out] at hcall
                    refine hcall.mono ?_
                    clear hcall
                    rintro e X4 ⟨⟨v, hev, sl, hvl, hrow⟩, hb⟩
                    have rZ : X4.ownsRow w.heap.size 3 1 sl n (xs.map (Value.int .i64)) := row_base (row_len (k := xs.length) hn.out hrow) (Nat.le_trans hB.size hS2.size)
                    obtain ⟨sza, szc, rfl⟩ := row_slice rZ
                    have he : e = .returned (.tuple #[.agg #[.int .i64 pw, .int .i64 ph, .slice sza n szc], .int .i64 0]) := by rw [hev, hvl]
                    subst he
                    clear hev hvl hrow
                    replace kz := kz.below hb kz.lt
                    have hS4 := hS2.trans (hb.mono hS2.size)
                    clear hb
                    refine hK.out _ _ (fun h => hS4) ?_
                    clear hK K
                    try simp only [Act.put, List.setIfInBounds_toArray, List.set_cons_zero, List.set_cons_succ]
                    refine take_op 5 (v := ?r15v) rfl (by kernel_rfl) (fun _ _ _ h => h) (by rfl) hS4 (fun w' hS' => ?r15y) ?r15z
                    case r15y =>
                      go_simp
                      rfl
                    simp only [List.setIfInBounds_toArray, List.set_cons_zero, List.set_cons_succ]
                    refine take_op 6 (v := ?r16v) rfl (by kernel_rfl) (fun _ _ _ h => h) (by rfl) hS4 (fun w' hS' => ?r16y) ?r16z
                    case r16y =>
                      go_simp
                      rfl
                    simp only [List.setIfInBounds_toArray, List.set_cons_zero, List.set_cons_succ]
                    refine take_op 7 (v := ?r17v) rfl (by kernel_rfl) (fun _ _ _ h => h) (by rfl) hS4 (fun w' hS' => ?r17y) ?r17z
                    case r17y =>
                      go_simp
                      rfl
                    simp only [List.setIfInBounds_toArray, List.set_cons_zero, List.set_cons_succ]
                    refine step_op 9 (by kernel_rfl) rfl (fun K hK => ?_)
                    have o0 := kz.cell (i := 0) rfl
                    have o1 := kz.cell (i := 1) rfl
                    have o2 := kz.cell (i := 2) rfl
                    have fo0 := kz.frozen 0
                    have fo1 := kz.frozen 1
                    have fo2 := kz.frozen 2
                    have hlbz := kz.lt
                    rw [if_pos (by rfl)]
                    go_simp
                    have hS9 := hS4.trans (put3_below hbzW (.int .i64 pw) (.int .i64 ph) (.slice sza n szc))
                    refine hK.out _ _ (fun h => hS9) ?_
                    clear hK K
                    try simp only [Act.put, List.setIfInBounds_toArray, List.set_cons_zero, List.set_cons_succ]
                    refine take_op 10 (v := ?r18v) rfl (by kernel_rfl) (fun _ _ _ h => h) (by rfl) hS9 (fun w' hS' => ?r18y) ?r18z
                    case r18y =>
                      go_simp
                      rfl
                    simp only [List.setIfInBounds_toArray, List.set_cons_zero, List.set_cons_succ]
                    refine done_ops (by kernel_rfl) ?_
                    go_wp2_with fail
                    go_meet
                    exact ⟨bz, sza, szc, rfl, rfl, put3_blk kz _ _ _, put3_row rZ (kz.not_row (by decide) rZ) _ _ _, hS9⟩
                case rest =>
                obtain ⟨bz, sza, szc, rfl, rfl, kZ, rZ, hb⟩ := hcut
                replace ka := ka.below hb ka.lt
                replace kb := kb.below hb kb.lt
                replace kk := kk.below hb kk.lt
                replace kS := kS.below hb kS.lt
                replace kX := kX.below hb kX.lt
                replace kP := kP.below hb kP.lt
                replace kQ := kQ.below hb kQ.lt
                replace kY := kY.below hb kY.lt
                replace rS := row_below rS hb
                replace rX := row_below rX hb
                replace rP := row_below rP hb
                replace rQ := row_below rQ hb
                replace rY := row_below rY hb
                replace hB := hB.trans (hb.mono hB.size)
                clear hb
                have m0 := ka.cell (i := 0) rfl
                have m1 := ka.cell (i := 1) rfl
                have m2 := ka.cell (i := 2) rfl
                have s0 := kb.cell (i := 0) rfl
                have s1 := kb.cell (i := 1) rfl
                have s2 := kb.cell (i := 2) rfl
                have t0 := kk.cell (i := 0) rfl
                have t1 := kk.cell (i := 1) rfl
                have t2 := kk.cell (i := 2) rfl
                have xs0 := kS.cell (i := 0) rfl
                have xs1 := kS.cell (i := 1) rfl
                have xs2 := kS.cell (i := 2) rfl
                have fxs0 := kS.frozen 0
                have fxs1 := kS.frozen 1
                have fxs2 := kS.frozen 2
                have xx0 := kX.cell (i := 0) rfl
                have xx1 := kX.cell (i := 1) rfl
                have xx2 := kX.cell (i := 2) rfl
                have fxx0 := kX.frozen 0
                have fxx1 := kX.frozen 1
                have fxx2 := kX.frozen 2
                have xp0 := kP.cell (i := 0) rfl
                have xp1 := kP.cell (i := 1) rfl
                have xp2 := kP.cell (i := 2) rfl
                have fxp0 := kP.frozen 0
                have fxp1 := kP.frozen 1
                have fxp2 := kP.frozen 2
                have xq0 := kQ.cell (i := 0) rfl
                have xq1 := kQ.cell (i := 1) rfl
                have xq2 := kQ.cell (i := 2) rfl
                have fxq0 := kQ.frozen 0
                have fxq1 := kQ.frozen 1
                have fxq2 := kQ.frozen 2
                have xy0 := kY.cell (i := 0) rfl
                have xy1 := kY.cell (i := 1) rfl
                have xy2 := kY.cell (i := 2) rfl
                have xz0 := kZ.cell (i := 0) rfl
                have xz1 := kZ.cell (i := 1) rfl
                have xz2 := kZ.cell (i := 2) rfl
                go_wp2_with fail
                refine (Same_eq pw ph srXa srYa srXc srYc n X hlX _ (by omega) (row_rd' hlX.out rX) (row_rd' hlX.out rY)).mono ?_
                rintro e V17 ⟨rfl, hb⟩
                clear m0 m1 m2 s0 s1 s2 t0 t1 t2 xs0 xs1 xs2 fxs0 fxs1 fxs2 xx0 xx1 xx2 fxx0 fxx1 fxx2 xp0 xp1 xp2 fxp0 fxp1 fxp2 xq0 xq1 xq2 fxq0 fxq1 fxq2 xy0 xy1 xy2 xz0 xz1 xz2
                replace ka := ka.below hb ka.lt
                replace kb := kb.below hb kb.lt
                replace kk := kk.below hb kk.lt
                replace kS := kS.below hb kS.lt
                replace kX := kX.below hb kX.lt
                replace kP := kP.below hb kP.lt
                replace kQ := kQ.below hb kQ.lt
                replace kY := kY.below hb kY.lt
                replace kZ := kZ.below hb kZ.lt
                replace rS := row_below rS hb
                replace rX := row_below rX hb
                replace rP := row_below rP hb
                replace rQ := row_below rQ hb
                replace rY := row_below rY hb
                replace rZ := row_below rZ hb
                replace hB := hB.trans (hb.mono hB.size)
                have m0 := ka.cell (i := 0) rfl
                have m1 := ka.cell (i := 1) rfl
                have m2 := ka.cell (i := 2) rfl
                have s0 := kb.cell (i := 0) rfl
                have s1 := kb.cell (i := 1) rfl
                have s2 := kb.cell (i := 2) rfl
                have t0 := kk.cell (i := 0) rfl
                have t1 := kk.cell (i := 1) rfl
                have t2 := kk.cell (i := 2) rfl
                have xs0 := kS.cell (i := 0) rfl
                have xs1 := kS.cell (i := 1) rfl
                have xs2 := kS.cell (i := 2) rfl
                have fxs0 := kS.frozen 0
                have fxs1 := kS.frozen 1
                have fxs2 := kS.frozen 2
                have xx0 := kX.cell (i := 0) rfl
                have xx1 := kX.cell (i := 1) rfl
                have xx2 := kX.cell (i := 2) rfl
                have fxx0 := kX.frozen 0
                have fxx1 := kX.frozen 1
                have fxx2 := kX.frozen 2
                have xp0 := kP.cell (i := 0) rfl
                have xp1 := kP.cell (i := 1) rfl
                have xp2 := kP.cell (i := 2) rfl
                have fxp0 := kP.frozen 0
                have fxp1 := kP.frozen 1
                have fxp2 := kP.frozen 2
                have xq0 := kQ.cell (i := 0) rfl
                have xq1 := kQ.cell (i := 1) rfl
                have xq2 := kQ.cell (i := 2) rfl
                have fxq0 := kQ.frozen 0
                have fxq1 := kQ.frozen 1
                have fxq2 := kQ.frozen 2
                have xy0 := kY.cell (i := 0) rfl
                have xy1 := kY.cell (i := 1) rfl
                have xy2 := kY.cell (i := 2) rfl
                have xz0 := kZ.cell (i := 0) rfl
                have xz1 := kZ.cell (i := 1) rfl
                have xz2 := kZ.cell (i := 2) rfl
                clear hb
                go_wp2_with fail
                refine (Same_eq pw ph sza a szc c n xs hn _ (by omega) (row_rd' hn.out rZ) ((hr.below (Nat.le_refl _) hB).mono hB.size)).mono ?_
                rintro e V18 ⟨rfl, hb⟩
                clear m0 m1 m2 s0 s1 s2 t0 t1 t2 xs0 xs1 xs2 fxs0 fxs1 fxs2 xx0 xx1 xx2 fxx0 fxx1 fxx2 xp0 xp1 xp2 fxp0 fxp1 fxp2 xq0 xq1 xq2 fxq0 fxq1 fxq2 xy0 xy1 xy2 xz0 xz1 xz2
                replace ka := ka.below hb ka.lt
                replace kb := kb.below hb kb.lt
                replace kk := kk.below hb kk.lt
                replace kS := kS.below hb kS.lt
                replace kX := kX.below hb kX.lt
                replace kP := kP.below hb kP.lt
                replace kQ := kQ.below hb kQ.lt
                replace kY := kY.below hb kY.lt
                replace kZ := kZ.below hb kZ.lt
                replace rS := row_below rS hb
                replace rX := row_below rX hb
                replace rP := row_below rP hb
                replace rQ := row_below rQ hb
                replace rY := row_below rY hb
                replace rZ := row_below rZ hb
                replace hB := hB.trans (hb.mono hB.size)
                have m0 := ka.cell (i := 0) rfl
                have m1 := ka.cell (i := 1) rfl
                have m2 := ka.cell (i := 2) rfl
                have s0 := kb.cell (i := 0) rfl
                have s1 := kb.cell (i := 1) rfl
                have s2 := kb.cell (i := 2) rfl
                have t0 := kk.cell (i := 0) rfl
                have t1 := kk.cell (i := 1) rfl
                have t2 := kk.cell (i := 2) rfl
                have xs0 := kS.cell (i := 0) rfl
                have xs1 := kS.cell (i := 1) rfl
                have xs2 := kS.cell (i := 2) rfl
                have fxs0 := kS.frozen 0
                have fxs1 := kS.frozen 1
                have fxs2 := kS.frozen 2
                have xx0 := kX.cell (i := 0) rfl
                have xx1 := kX.cell (i := 1) rfl
                have xx2 := kX.cell (i := 2) rfl
                have fxx0 := kX.frozen 0
                have fxx1 := kX.frozen 1
                have fxx2 := kX.frozen 2
                have xp0 := kP.cell (i := 0) rfl
                have xp1 := kP.cell (i := 1) rfl
                have xp2 := kP.cell (i := 2) rfl
                have fxp0 := kP.frozen 0
                have fxp1 := kP.frozen 1
                have fxp2 := kP.frozen 2
                have xq0 := kQ.cell (i := 0) rfl
                have xq1 := kQ.cell (i := 1) rfl
                have xq2 := kQ.cell (i := 2) rfl
                have fxq0 := kQ.frozen 0
                have fxq1 := kQ.frozen 1
                have fxq2 := kQ.frozen 2
                have xy0 := kY.cell (i := 0) rfl
                have xy1 := kY.cell (i := 1) rfl
                have xy2 := kY.cell (i := 2) rfl
                have xz0 := kZ.cell (i := 0) rfl
                have xz1 := kZ.cell (i := 1) rfl
                have xz2 := kZ.cell (i := 2) rfl
                clear hb
                go_wp2_with fail
                go_ret
                exact ⟨rfl, hB⟩

end Go.Proofs.Ytjglfeonoiljlaa
namespace Go.Proofs.Ytjglfeonoiljlaa.imageLinear
open Go Go.ChangeShapes Go.WideShapes Go.ChangeAt Go.RowKit
set_option linter.unusedVariables false
set_option maxRecDepth 100000

theorem lifted (os : Os) (started : os.Started) (H : Type) (enc : TypeId × Value → H) :
    ReturnsInHanded {} Try.checked os 18 .any (Rows.imageLinearSpec.pre6 enc Try.prog Try.f18 Rows.imageLinearRow.domain false) (Rows.imageLinearSpec.post enc Try.prog Try.f18 false true false false) := by
  refine returnsInHanded_of_change_sized (C := Try.checked) tryOwn started (by kernel_rfl) Try.func18
    (ChangeSpec.witness6 (enc := enc) (C := Try.checked) false ⟨#[], #[.agg #[.int .i64 0, .int .i64 0, .slice none 0 0], .agg #[.int .i64 0, .int .i64 0, .slice none 0 0], .agg #[.int .i64 0, .int .i64 0, .slice none 0 0], .int .u8 0], []⟩ 8 (by kernel_rfl) (by kernel_rfl) (by kernel_rfl) (by kernel_rfl)) ?_
  intro W base args ds gs before hval0 hW hcnd hsz _
  have hval : ∀ (j : Nat) t v, Try.f18.params[j]? = some t → args[j]? = some v → Value.okWide Try.prog W .any base t v := hval0
  have hW0 : DataW.Whole enc Try.prog Try.f18.params.toList [] false W args.toList ds gs before := hW
  obtain ⟨p, q, hA0, hV, rfl, hfz, hnd⟩ := hW0
  have hA : DataW.TrodAll enc Try.prog W 0 (fun _ => true) true Try.f18.params.toList args.toList ds p := hA0
  obtain ⟨rfl, rfl⟩ := trodVars_none hV
  have hsz' : (DataW.weightsEach Try.prog (Try.f18.params.toList ++ []) (ds ++ [])).all (· ≤ reachBytes) = true := hsz
  rw [Try.params18] at hA hval hsz'
  simp only [List.append_nil] at hsz'
  obtain ⟨v0, vs0, d0, ds0, p0, q0, hargs, rfl, rfl, h0, r0⟩ := trodAll_cons hA
  obtain ⟨v1, vs1, d1, ds1, p1, q1, rfl, rfl, rfl, h1, r1⟩ := trodAll_cons r0
  obtain ⟨v2, vs2, d2, ds2, p2, q2, rfl, rfl, rfl, h2, r2⟩ := trodAll_cons r1
  obtain ⟨v3, vs3, d3, ds3, p3, q3, rfl, rfl, rfl, h3, r3⟩ := trodAll_cons r2
  obtain ⟨rfl, rfl, rfl⟩ := trodAll_nil r3
  obtain rfl : args = #[v0, v1, v2, v3] := by cases args; simp_all
  obtain ⟨iw0, ih0, a0, n0, c0, xs0, rfl, hn0, hr0, hnil0, hm0, hxs0, wiw0, wih0⟩ := open_im (hval 0 _ _ rfl rfl) h0 (wt_at hsz' (j := 0) rfl rfl)
  obtain ⟨iw1, ih1, a1, n1, c1, xs1, rfl, hn1, hr1, hnil1, hm1, hxs1, wiw1, wih1⟩ := open_im (hval 1 _ _ rfl rfl) h1 (wt_at hsz' (j := 1) rfl rfl)
  obtain ⟨iw2, ih2, a2, n2, c2, xs2, rfl, hn2, hr2, hnil2, hm2, hxs2, wiw2, wih2⟩ := open_kernel (hval 2 _ _ rfl rfl) h2 (wt_at hsz' (j := 2) rfl rfl)
  obtain ⟨x3, rfl, _, _, w3⟩ := open_int Try.underlying5 (hval 3 _ _ rfl rfl) h3
  have hx3 : 0 ≤ x3 ∧ x3 ≤ 255 := by simpa [Lit.wf, IntKind.min, IntKind.max, IntKind.signed, IntKind.bits] using w3
  refine (law_linear iw0 ih0 a0 c0 n0 xs0 hn0 iw1 ih1 a1 c1 n1 xs1 hn1 iw2 ih2 a2 c2 n2 xs2 hn2 x3 hx3.1 hx3.2 W (by omega) hr0 (by omega) hr1 (by omega) hr2).mono fun e W' ⟨he, hb⟩ => ?_
  subst he
  exact ⟨_, rfl, post_true rfl (by kernel_rfl) rfl hW ⟨rfl, rfl, rfl⟩ hb⟩

theorem facts : joinedFacts Try.pinned.checked.prog 18 Try.f18 Rows.imageLinearSpec Rows.imageLinearRow = true :=
  facts_of _ _ _ _ rfl rfl (by kernel_rfl) (by kernel_rfl) (by kernel_rfl) (by kernel_rfl) (by kernel_rfl) (by kernel_rfl) (by kernel_rfl) rfl rfl (by kernel_rfl) (by kernel_rfl)

theorem over : Rows.imageLinearRow.holds Try.pinned (OpenSpec.ofChange Rows.imageLinearSpec) :=
  OpenClaim.holds_of_wide 18 Try.f18 rfl rfl rfl rfl rfl rfl rfl ⟨rfl, rfl, rfl, rfl, rfl⟩ rfl rfl rfl rfl rfl (by kernel_rfl) Try.func18 facts
    (of_decide_eq_true (by kernel_rfl)) (by unfold Func.isWrapper; first | (rw [if_pos (by decide +kernel)]; kernel_rfl) | (rw [if_neg (by decide +kernel)]; exact ⟨rfl, rfl⟩))
    (fun os started H enc _ => lifted os started H enc)

theorem proved : Rows.ImageLinearSaid :=
  over
#print axioms proved
end Go.Proofs.Ytjglfeonoiljlaa.imageLinear
