/- ImageComposed returns true for every image and two kernels. No condition. -/
import Derived.Test.YtjglfeonoiljlaaMorLaws
import Derived.Test.YtjglfeonoiljlaaImgH
import Derived.Test.YtjglfeonoiljlaaImgY
import Derived.Test.YtjglfeonoiljlaaRowsIs
import Derived.Test.YtjglfeonoiljlaaAlive
import Derived.Test.YtjglfeonoiljlaaImgZ
import Derived.Test.YtjglfeonoiljlaaHead
import Derived.Test.YtjglfeonoiljlaaOpen
import Derived.Test.YtjglfeonoiljlaaOpenKS
namespace Go.Proofs.Ytjglfeonoiljlaa
open Go
set_option linter.unusedVariables false
set_option linter.unusedSimpArgs false

def turnL (pw ph : Nat) (L : List Int) : List Int := img ph pw (turnG pw ph L)
def flipL (pw ph : Nat) (L : List Int) : List Int := img pw ph (flipG pw L)
def ptL (pw ph : Nat) (p : PointN) (L : List Int) : List Int := img pw ph (pointG pw L p)
/-- The pixel at a place. -/
def pxy (pw : Nat) (L : List Int) (x y : Nat) : Int := px L ((y * pw + x : Nat) : Int)

variable {pw ph : Nat} {L : List Int}
theorem turnL_len : (turnL pw ph L).length = pw * ph := by unfold turnL; rw [img_length, Nat.mul_comm]
theorem flipL_len : (flipL pw ph L).length = pw * ph := img_length _ _ _
theorem ptL_len {p : PointN} : (ptL pw ph p L).length = pw * ph := img_length _ _ _
theorem turnL_rng : rng (turnL pw ph L) := rng_img _ _ _
theorem flipL_rng : rng (flipL pw ph L) := rng_img _ _ _
theorem ptL_rng {p : PointN} : rng (ptL pw ph p L) := rng_img _ _ _

theorem cX_at {x : Nat} (y : Nat) (hx : x < pw) : cX pw (y * pw + x) = (x : Int) := by unfold cX; rw [idx_mod y hx]
theorem cY_at {x : Nat} (y : Nat) (hx : x < pw) : cY pw (y * pw + x) = (y : Int) := by unfold cY; rw [idx_div y hx]

theorem pxy_turn (hL : rng L) {x y : Nat} (hx : x < ph) (hy : y < pw) : pxy ph (turnL pw ph L) x y = pxy pw L y (ph - 1 - x) := by
  unfold pxy turnL
  rw [px_img (fun i hi => px_bd hL _) (idx_bound hx hy), cX_at y hx, cY_at y hx]
  unfold turnG
  rw [Int.natCast_add, Int.natCast_mul, show ((ph - 1 - x : Nat) : Int) = (ph : Int) - 1 - x by omega]
theorem pxy_flip (hL : rng L) {x y : Nat} (hx : x < pw) (hy : y < ph) : pxy pw (flipL pw ph L) x y = pxy pw L (pw - 1 - x) y := by
  unfold pxy flipL
  rw [px_img (fun i hi => px_bd hL _) (idx_bound hx hy), cX_at y hx, cY_at y hx]
  unfold flipG
  rw [Int.natCast_add, Int.natCast_mul, show ((pw - 1 - x : Nat) : Int) = (pw : Int) - 1 - x by omega]
theorem pointF_rng {p : PointN} (hp : p.ok = true) (v : Int) : -2147483648 ≤ pointF p v ∧ pointF p v ≤ 2147483648 := by
  simp only [PointN.ok, Bool.and_eq_true, inR_true, decide_eq_true_eq] at hp
  unfold pointF clamp
  omega
theorem pxy_pt {p : PointN} (hp : p.ok = true) {x y : Nat} (hx : x < pw) (hy : y < ph) : pxy pw (ptL pw ph p L) x y = pointF p (pxy pw L x y) := by
  unfold pxy ptL
  rw [px_img (fun i hi => pointF_rng hp _) (idx_bound hx hy), cX_at y hx, cY_at y hx]
  unfold pointG
  rw [Int.natCast_add, Int.natCast_mul]
theorem pxy_ext {A B : List Int} (hA : A.length = pw * ph) (hB : B.length = pw * ph) (h : ∀ x y, x < pw → y < ph → pxy pw A x y = pxy pw B x y) : A = B := by
  refine px_ext (by rw [hA, hB]) fun i hi => ?_
  rw [hA] at hi
  have hpw : 0 < pw := by
    cases pw with
    | zero => simp at hi
    | succ k => omega
  have := h (i % pw) (i / pw) (Nat.mod_lt i hpw) (Nat.div_lt_of_lt_mul hi)
  unfold pxy at this
  rw [idx_split] at this
  exact this

theorem turn4 (hl : L.length = pw * ph) (hL : rng L) : turnL ph pw (turnL pw ph (turnL ph pw (turnL pw ph L))) = L := by
  refine pxy_ext (pw := pw) (ph := ph) (by rw [turnL_len, Nat.mul_comm]) hl fun x y hx hy => ?_
  rw [pxy_turn turnL_rng hx hy, pxy_turn turnL_rng hy (by omega), pxy_turn turnL_rng (by omega) (by omega), pxy_turn hL (by omega) (by omega)]
  rw [show pw - 1 - (pw - 1 - x) = x by omega, show ph - 1 - (ph - 1 - y) = y by omega]
theorem flip2 (hl : L.length = pw * ph) (hL : rng L) : flipL pw ph (flipL pw ph L) = L := by
  refine pxy_ext (pw := pw) (ph := ph) flipL_len hl fun x y hx hy => ?_
  rw [pxy_flip flipL_rng hx hy, pxy_flip hL (by omega) hy]
  rw [show pw - 1 - (pw - 1 - x) = x by omega]
theorem ftft (hl : L.length = pw * ph) (hL : rng L) : turnL ph pw (flipL ph pw (turnL pw ph (flipL pw ph L))) = L := by
  refine pxy_ext (pw := pw) (ph := ph) (by rw [turnL_len, Nat.mul_comm]) hl fun x y hx hy => ?_
  rw [pxy_turn flipL_rng hx hy, pxy_flip turnL_rng hy (by omega), pxy_turn flipL_rng (by omega) (by omega), pxy_flip hL (by omega) (by omega)]
  rw [show pw - 1 - (pw - 1 - x) = x by omega, show ph - 1 - (ph - 1 - y) = y by omega]
theorem point_through {p : PointN} (hp : p.ok = true) (hL : rng L) : ptL ph pw p (flipL ph pw (turnL pw ph L)) = flipL ph pw (turnL pw ph (ptL pw ph p L)) := by
  refine pxy_ext (pw := ph) (ph := pw) ptL_len flipL_len fun x y hx hy => ?_
  rw [pxy_pt hp hx hy, pxy_flip turnL_rng hx hy, pxy_flip turnL_rng hx hy, pxy_turn hL (by omega) hy, pxy_turn ptL_rng (by omega) hy, pxy_pt hp hy (by omega)]

theorem turnS_ok {xs : List Int} (hv : vld pw ph xs = true) : turnS pw ph xs = { w := ph, h := pw, px := turnL pw ph xs, err := 0 } := by unfold turnS; rw [if_pos hv]; rfl
theorem flipS_ok {xs : List Int} (hv : vld pw ph xs = true) : flipS pw ph xs = { w := pw, h := ph, px := flipL pw ph xs, err := 0 } := by unfold flipS; rw [if_pos hv]; rfl
theorem pointS_ok {xs : List Int} {p : PointN} (hv : vld pw ph xs = true) (hp : p.ok = true) : pointS pw ph xs p = { w := pw, h := ph, px := ptL pw ph p xs, err := 0 } := by unfold pointS; rw [if_pos hv, if_pos hp]; rfl

end Go.Proofs.Ytjglfeonoiljlaa
namespace Go.Proofs.Ytjglfeonoiljlaa
open Go
set_option linter.unusedVariables false
set_option linter.unusedSimpArgs false

theorem sumTo_add (f g : Nat → Int) : ∀ n, sumTo (fun i => f i + g i) n = sumTo f n + sumTo g n
  | 0 => rfl
  | n + 1 => by simp only [sumTo]; rw [sumTo_add f g n]; omega
theorem sumTo_mul (c : Int) (f : Nat → Int) : ∀ n, sumTo (fun i => c * f i) n = c * sumTo f n
  | 0 => by simp [sumTo]
  | n + 1 => by simp only [sumTo]; rw [sumTo_mul c f n, Int.mul_add]
theorem sumTo_mul_right (c : Int) (f : Nat → Int) (n : Nat) : sumTo f n * c = sumTo (fun i => f i * c) n := by
  rw [Int.mul_comm, ← sumTo_mul]
  exact sumTo_congr fun i _ => Int.mul_comm _ _
theorem sumTo_swap (f : Nat → Nat → Int) (n : Nat) : ∀ m, sumTo (fun i => sumTo (fun j => f i j) n) m = sumTo (fun j => sumTo (fun i => f i j) m) n
  | 0 => by simp only [sumTo]; exact (sumTo_zero (fun _ => rfl) n).symm
  | m + 1 => by simp only [sumTo]; rw [sumTo_swap f n m, ← sumTo_add]

theorem px_toNat (L : List Int) (q : Int) : px L q = px L ((q.toNat : Nat) : Int) := by unfold px; rw [Int.toNat_natCast]

theorem allIn_px {B : Int} {xs : List Int} (hB : 0 ≤ B) (h : allIn (-B) B xs = true) (q : Int) : -B ≤ px xs q ∧ px xs q ≤ B := px_bdB hB h q

/-- What Convolve returns where nothing is refused. -/
theorem convS_ok {pw ph kw kh : Nat} {xs taps : List Int} {bd : Int} (hv : vld pw ph xs = true) (hk : kernOk kw kh taps = true) (h1 : 1 ≤ bd) (h2 : bd ≤ 3) :
    convS pw ph xs kw kh taps bd = { w := pw, h := ph, px := img pw ph (convG bd pw ph xs kw kh taps), err := 0 } := by
  unfold convS
  rw [if_pos hv, if_pos hk, if_pos (decide_eq_true ⟨h1, h2⟩)]
  rfl
theorem zipS_ok {pw ph : Nat} {xs ys : List Int} {how : Int} (hx : vld pw ph xs = true) (hy : vld pw ph ys = true) (h1 : 1 ≤ how) (h2 : how ≤ 6) :
    zipS pw ph xs pw ph ys how = { w := pw, h := ph, px := img pw ph (zipG pw xs ys how), err := 0 } := by
  unfold zipS
  rw [if_pos hx, if_pos hy, if_pos (decide_eq_true ⟨rfl, rfl⟩), if_pos (decide_eq_true ⟨h1, h2⟩)]
  rfl

variable {pw ph kw kh : Nat} {xs ys zs taps : List Int} {bd : Int}

theorem beyF_bdB {B : Int} (hB : 0 ≤ B) (h : allIn (-B) B xs = true) (bd iw ih x y : Int) : -B ≤ beyF bd iw ih xs x y ∧ beyF bd iw ih xs x y ≤ B := by
  unfold beyF
  split
  · split
    · exact px_bdB hB h _
    · omega
  · split <;> exact px_bdB hB h _
theorem convG_bdB {B C : Int} (hB : 0 ≤ B) (hC : 0 ≤ C) (h : allIn (-B) B xs = true) (ht : allIn (-C) C taps = true) (hk : kw * kh ≤ 25) (iw ih x y : Int) : -(25 * (C * B)) ≤ convG bd iw ih xs kw kh taps x y ∧ convG bd iw ih xs kw kh taps x y ≤ 25 * (C * B) := by
  have hCB : 0 ≤ C * B := Int.mul_nonneg hC hB
  have h1 := sumTo_bd (f := convT bd iw ih xs kw kh taps x y) (B := C * B) (k := kw * kh) fun t _ => by
    have h2 := px_bdB hC ht (t : Int)
    have h3 := beyF_bdB hB h bd iw ih (x + ((kw / 2 : Nat) : Int) - ((t % kw : Nat) : Int)) (y + ((kh / 2 : Nat) : Int) - ((t / kw : Nat) : Int))
    exact mul_bd h2.1 h2.2 h3.1 h3.2 hC hB
  have h4 : C * B * ((kw * kh : Nat) : Int) ≤ C * B * 25 := Int.mul_le_mul_of_nonneg_left (by omega) hCB
  unfold convG
  rw [Int.mul_comm 25 (C * B)]
  omega

/-! ### Linear -/

theorem beyF_add (h : ∀ q, px zs q = px xs q + px ys q) (bd iw ih x y : Int) : beyF bd iw ih zs x y = beyF bd iw ih xs x y + beyF bd iw ih ys x y := by
  unfold beyF
  split
  · split
    · exact h _
    · rfl
  · split <;> exact h _
theorem convG_add (h : ∀ q, px zs q = px xs q + px ys q) (bd iw ih x y : Int) : convG bd iw ih zs kw kh taps x y = convG bd iw ih xs kw kh taps x y + convG bd iw ih ys kw kh taps x y := by
  unfold convG
  rw [← sumTo_add]
  refine sumTo_congr fun t _ => ?_
  unfold convT
  rw [beyF_add h, Int.mul_add]

theorem zip_sum_px (hx : allIn (-1000) 1000 xs = true) (hy : allIn (-1000) 1000 ys = true) (lx : xs.length = pw * ph) (ly : ys.length = pw * ph) (q : Int) : px (img pw ph (zipG pw xs ys 1)) q = px xs q + px ys q := by
  rw [px_toNat, px_toNat xs, px_toNat ys]
  obtain ⟨i, hi⟩ : ∃ i, q.toNat = i := ⟨_, rfl⟩
  rw [hi]
  by_cases hlt : i < pw * ph
  · have key : ∀ j, zipG pw xs ys 1 (cX pw j) (cY pw j) = px xs j + px ys j := fun j => by
      unfold zipG zipF; rw [if_pos rfl, cXY]
    rw [px_img (fun j _ => by
      rw [key]
      have h1 := px_bdB (B := 1000) (by decide) hx (j : Int)
      have h2 := px_bdB (B := 1000) (by decide) hy (j : Int)
      omega) hlt, key]
  · rw [px_out (by rw [img_length]; omega), px_out (by omega), px_out (by omega)]
    rfl

/-- The convolution of the sum is the sum of the convolutions. -/
theorem conv_linear (hx : allIn (-1000) 1000 xs = true) (hy : allIn (-1000) 1000 ys = true) (ht : allIn (-1000) 1000 taps = true) (lx : xs.length = pw * ph) (ly : ys.length = pw * ph) (hk : kw * kh ≤ 25) :
    img pw ph (zipG pw (img pw ph (convG bd pw ph xs kw kh taps)) (img pw ph (convG bd pw ph ys kw kh taps)) 1) = img pw ph (convG bd pw ph (img pw ph (zipG pw xs ys 1)) kw kh taps) := by
  have bx := fun x y => convG_bdB (bd := bd) (B := 1000) (C := 1000) (by decide) (by decide) hx ht hk pw ph x y
  have by_ := fun x y => convG_bdB (bd := bd) (B := 1000) (C := 1000) (by decide) (by decide) hy ht hk pw ph x y
  refine px_ext (by rw [img_length, img_length]) fun i hi => ?_
  rw [img_length] at hi
  have e1 := fun (j : Nat) (hj : j < pw * ph) => px_img (pw := pw) (ph := ph) (g := convG bd pw ph xs kw kh taps) (fun j _ => by have := bx (cX pw j) (cY pw j); omega) hj
  have e2 := fun (j : Nat) (hj : j < pw * ph) => px_img (pw := pw) (ph := ph) (g := convG bd pw ph ys kw kh taps) (fun j _ => by have := by_ (cX pw j) (cY pw j); omega) hj
  have key : ∀ j, j < pw * ph → zipG pw (img pw ph (convG bd pw ph xs kw kh taps)) (img pw ph (convG bd pw ph ys kw kh taps)) 1 (cX pw j) (cY pw j) = convG bd pw ph xs kw kh taps (cX pw j) (cY pw j) + convG bd pw ph ys kw kh taps (cX pw j) (cY pw j) := fun j hj => by
    unfold zipG zipF
    rw [if_pos rfl, cXY, e1 j hj, e2 j hj]
  have hadd := fun x y => convG_add (kw := kw) (kh := kh) (taps := taps) (zip_sum_px hx hy lx ly) bd pw ph x y
  rw [px_img (fun j hj => by rw [key j hj]; have := bx (cX pw j) (cY pw j); have := by_ (cX pw j) (cY pw j); omega) hi, key i hi, px_img (fun j hj => by rw [hadd]; have := bx (cX pw j) (cY pw j); have := by_ (cX pw j) (cY pw j); omega) hi, hadd]

/-- A kernel with the one factor 1 changes nothing. -/
theorem conv_one (hx : rng xs) (lx : xs.length = pw * ph) : img pw ph (convG bd pw ph xs 1 1 [1]) = xs := by
  have key : ∀ i, i < pw * ph → convG bd pw ph xs 1 1 [1] (cX pw i) (cY pw i) = px xs i := fun i hi => by
    have hpw : 0 < pw := Nat.pos_of_ne_zero (by rintro rfl; simp at hi)
    obtain ⟨x1, x2⟩ := cX_bd (pw := pw) (i := i) (by omega)
    obtain ⟨y1, y2⟩ := cY_bd (pw := pw) (ph := ph) (i := i) hi
    unfold convG
    show 0 + convT bd pw ph xs 1 1 [1] (cX pw i) (cY pw i) 0 = _
    unfold convT
    rw [show cX pw i + ((1 / 2 : Nat) : Int) - ((0 % 1 : Nat) : Int) = cX pw i by simp, show cY pw i + ((1 / 2 : Nat) : Int) - ((0 / 1 : Nat) : Int) = cY pw i by simp]
    rw [beyF_in (by simp only [Bool.and_eq_true, inR_true]; omega), cXY]
    show 0 + 1 * _ = _
    omega
  refine px_ext (by rw [img_length, lx]) fun i hi => ?_
  rw [img_length] at hi
  rw [px_img (fun j hj => by rw [key j hj]; exact px_bd hx _) hi, key i hi]

/-! ### Composed -/

theorem kpos_comm (aw bw s u : Nat) : kpos aw bw s u = kpos bw aw u s := by
  unfold kpos
  rw [Nat.add_comm (s / aw), Nat.add_comm aw bw]
  omega

theorem conF_sum {aw ah bw bh : Nat} (ha : 0 < aw) (hb : 0 < bw) (hbh : 0 < bh) (a b : Nat → Int) (p : Nat) :
    conF aw ah bw bh a b p = sumTo (fun s => sumTo (fun u => if kpos aw bw s u = p then a s * b u else 0) (bw * bh)) (aw * ah) := by
  unfold conF
  exact sumTo_congr fun s _ => (con_term ha hb hbh a b p s).symm
theorem conF_comm {aw ah bw bh : Nat} (ha : 0 < aw) (hah : 0 < ah) (hb : 0 < bw) (hbh : 0 < bh) (a b : Nat → Int) (p : Nat) : conF aw ah bw bh a b p = conF bw bh aw ah b a p := by
  rw [conF_sum ha hb hbh, conF_sum hb ha hah, sumTo_swap]
  refine sumTo_congr fun u _ => sumTo_congr fun s _ => ?_
  rw [kpos_comm, Int.mul_comm]
theorem compL_comm {aw ah bw bh : Nat} (ha : 0 < aw) (hah : 0 < ah) (hb : 0 < bw) (hbh : 0 < bh) (A B : List Int) : compL bw bh aw ah B A = compL aw ah bw bh A B := by
  unfold compL
  rw [Nat.add_comm bw aw, Nat.add_comm bh ah]
  refine List.map_congr_left fun p _ => ?_
  unfold compT
  rw [conF_comm ha hah hb hbh]

theorem beyF_per {iw ih : Int} (x y c d : Int) : beyF 3 iw ih xs (x % iw + c) (y % ih + d) = beyF 3 iw ih xs (x + c) (y + d) := by
  rw [beyF_3, beyF_3, Int.emod_add_emod, Int.emod_add_emod]
theorem convG_per {iw ih : Int} (x y : Int) : convG 3 iw ih xs kw kh taps (x % iw) (y % ih) = convG 3 iw ih xs kw kh taps x y := by
  unfold convG
  refine sumTo_congr fun t _ => ?_
  unfold convT
  rw [Int.add_sub_assoc, Int.add_sub_assoc, beyF_per, Int.add_sub_assoc, Int.add_sub_assoc]
/-- A convolved image beyond its border is the convolution there. -/
theorem beyF_conv (hpw : 0 < pw) (hph : 0 < ph) (hb : ∀ x y, -2147483648 ≤ convG 3 pw ph xs kw kh taps x y ∧ convG 3 pw ph xs kw kh taps x y ≤ 2147483648) (x y : Int) :
    beyF 3 pw ph (img pw ph (convG 3 pw ph xs kw kh taps)) x y = convG 3 pw ph xs kw kh taps x y := by
  rw [beyF_3, ← convG_per x y]
  have x1 := Int.emod_nonneg x (show (pw : Int) ≠ 0 by omega)
  have x2 := Int.emod_lt_of_pos x (show (0 : Int) < pw by omega)
  have y1 := Int.emod_nonneg y (show (ph : Int) ≠ 0 by omega)
  have y2 := Int.emod_lt_of_pos y (show (0 : Int) < ph by omega)
  obtain ⟨u, hu⟩ : ∃ u : Nat, x % (pw : Int) = u := ⟨(x % (pw : Int)).toNat, by omega⟩
  obtain ⟨v, hv⟩ : ∃ v : Nat, y % (ph : Int) = v := ⟨(y % (ph : Int)).toNat, by omega⟩
  rw [hu] at x1 x2 ⊢
  rw [hv] at y1 y2 ⊢
  rw [← Int.natCast_mul, ← Int.natCast_add, px_img (fun j _ => hb _ _) (idx_bound (by omega) (by omega)), cX_at v (by omega), cY_at v (by omega)]

/-- A sum over the table of a composition. -/
theorem sum_table {aw ah bw bh : Nat} (ha : 0 < aw) (hb : 0 < bw) (hbh : 0 < bh) (a b M : Nat → Int) :
    sumTo (fun p => conF aw ah bw bh a b p * M p) ((aw + bw - 1) * (ah + bh - 1)) = sumTo (fun s => sumTo (fun u => a s * b u * M (kpos aw bw s u)) (bw * bh)) (aw * ah) := by
  have e1 : ∀ p, conF aw ah bw bh a b p * M p = sumTo (fun s => sumTo (fun u => if kpos aw bw s u = p then a s * b u * M p else 0) (bw * bh)) (aw * ah) := fun p => by
    rw [conF_sum ha hb hbh, sumTo_mul_right]
    refine sumTo_congr fun s _ => ?_
    rw [sumTo_mul_right]
    refine sumTo_congr fun u _ => ?_
    split
    · rfl
    · exact Int.zero_mul _
  rw [sumTo_congr fun p _ => e1 p, sumTo_swap]
  refine sumTo_congr fun s hs => ?_
  rw [sumTo_swap]
  refine sumTo_congr fun u hu => ?_
  rw [sumTo_one (u := kpos aw bw s u) fun p _ hne => if_neg fun h => hne h.symm, if_pos (kpos_lt hs hu), if_pos rfl]

theorem odd_half {a b : Nat} (ha : a = 1 ∨ a = 3 ∨ a = 5) (hb : b = 1 ∨ b = 3 ∨ b = 5) : (a + b - 1) / 2 = a / 2 + b / 2 := by omega

section
variable {aw ah bw bh : Nat} {A B : List Int}
/-- The convolution with a composition, before any range, is both convolutions, one after the other. -/
theorem convG_comp (hpw : 0 < pw) (hph : 0 < ph) (haw : aw = 1 ∨ aw = 3 ∨ aw = 5) (hah : ah = 1 ∨ ah = 3 ∨ ah = 5) (hbw : bw = 1 ∨ bw = 3 ∨ bw = 5) (hbh : bh = 1 ∨ bh = 3 ∨ bh = 5)
    (hb : ∀ x y, -2147483648 ≤ convG 3 pw ph xs aw ah A x y ∧ convG 3 pw ph xs aw ah A x y ≤ 2147483648) (K : List Int) (hK : ∀ p, p < (aw + bw - 1) * (ah + bh - 1) → px K p = conF aw ah bw bh (fun t => px A t) (fun t => px B t) p) (x y : Int) :
    convG 3 pw ph (img pw ph (convG 3 pw ph xs aw ah A)) bw bh B x y = convG 3 pw ph xs (aw + bw - 1) (ah + bh - 1) K x y := by
  have r : convG 3 pw ph xs (aw + bw - 1) (ah + bh - 1) K x y = sumTo (fun p => conF aw ah bw bh (fun t => px A t) (fun t => px B t) p * beyF 3 pw ph xs (x + (((aw + bw - 1) / 2 : Nat) : Int) - ((p % (aw + bw - 1) : Nat) : Int)) (y + (((ah + bh - 1) / 2 : Nat) : Int) - ((p / (aw + bw - 1) : Nat) : Int))) ((aw + bw - 1) * (ah + bh - 1)) := by
    unfold convG
    refine sumTo_congr fun p hp => ?_
    unfold convT
    rw [hK p hp]
  rw [r, sum_table (by omega) (by omega) (by omega) _ _ (fun p => beyF 3 pw ph xs (x + (((aw + bw - 1) / 2 : Nat) : Int) - ((p % (aw + bw - 1) : Nat) : Int)) (y + (((ah + bh - 1) / 2 : Nat) : Int) - ((p / (aw + bw - 1) : Nat) : Int))), sumTo_swap]
  show sumTo (convT 3 pw ph (img pw ph (convG 3 pw ph xs aw ah A)) bw bh B x y) (bw * bh) = _
  refine sumTo_congr fun u hu => ?_
  show px B u * beyF 3 pw ph (img pw ph (convG 3 pw ph xs aw ah A)) _ _ = _
  rw [beyF_conv hpw hph hb]
  show px B u * sumTo (convT 3 pw ph xs aw ah A _ _) (aw * ah) = _
  rw [← sumTo_mul]
  refine sumTo_congr fun s hs => ?_
  have m1 := Nat.mod_lt s (show 0 < aw by omega)
  have m2 := Nat.mod_lt u (show 0 < bw by omega)
  have e1 := idx_mod (w := aw + bw - 1) (x := s % aw + u % bw) (s / aw + u / bw) (by omega)
  have e2 := idx_div (w := aw + bw - 1) (x := s % aw + u % bw) (s / aw + u / bw) (by omega)
  have hkp : kpos aw bw s u = (s / aw + u / bw) * (aw + bw - 1) + (s % aw + u % bw) := by unfold kpos; rw [Nat.add_assoc]
  show px B u * (px A s * beyF 3 pw ph xs _ _) = px A s * px B u * beyF 3 pw ph xs _ _
  rw [hkp, e1, e2, odd_half haw hbw, odd_half hah hbh, ← Int.mul_assoc, Int.mul_comm (px B u)]
  congr 2 <;> omega

theorem conF_bd (hA : allIn (-50) 50 A = true) (hB : allIn (-50) 50 B = true) (hk : aw * ah ≤ 25) (p : Nat) : -65536 ≤ conF aw ah bw bh (fun t => px A t) (fun t => px B t) p ∧ conF aw ah bw bh (fun t => px A t) (fun t => px B t) p ≤ 65536 := by
  have h1 := sumTo_bd (f := conTerm aw bw bh (fun t => px A t) (fun t => px B t) p) (B := 2500) (k := aw * ah) fun s _ => by
    unfold conTerm
    split
    · have h1 := px_bdB (B := 50) (by decide) hA (s : Int)
      have h2 := px_bdB (B := 50) (by decide) hB (((p / (aw + bw - 1) - s / aw) * bw + (p % (aw + bw - 1) - s % aw) : Nat) : Int)
      have h3 := mul_bd h1.1 h1.2 h2.1 h2.2 (by decide) (by decide)
      exact ⟨by have := h3.1; simpa using this, by have := h3.2; simpa using this⟩
    · omega
  unfold conF
  omega

theorem compL_len : (compL aw ah bw bh A B).length = (aw + bw - 1) * (ah + bh - 1) := by simp [compL]
theorem compL_px {p : Nat} (hp : p < (aw + bw - 1) * (ah + bh - 1)) : px (compL aw ah bw bh A B) p = compT aw ah bw bh A B p := px_map_range _ hp
theorem kernOk_comp (haw : aw = 1 ∨ aw = 3 ∨ aw = 5) (hah : ah = 1 ∨ ah = 3 ∨ ah = 5) (hbw : bw = 1 ∨ bw = 3 ∨ bw = 5) (hbh : bh = 1 ∨ bh = 3 ∨ bh = 5) (h1 : aw + bw - 1 ≤ 5) (h2 : ah + bh - 1 ≤ 5) :
    kernOk ((aw + bw - 1 : Nat) : Int) ((ah + bh - 1 : Nat) : Int) (compL aw ah bw bh A B) = true := by
  have hr : allIn (-65536) 65536 (compL aw ah bw bh A B) = true := by
    unfold compL
    simp only [allIn, List.all_eq_true, List.mem_map]
    rintro x ⟨p, _, rfl⟩
    have := clamp_le (n := conF aw ah bw bh (fun t => px A t) (fun t => px B t) p) (lo := -65536) (hi := 65536) (by decide)
    exact inR_true.2 this
  have a1 : aw + bw - 1 = 1 ∨ aw + bw - 1 = 3 ∨ aw + bw - 1 = 5 := by omega
  have a2 : ah + bh - 1 = 1 ∨ ah + bh - 1 = 3 ∨ ah + bh - 1 = 5 := by omega
  unfold kernOk sidesB
  rw [hr, compL_len]
  rcases a1 with h | h | h <;> rcases a2 with h' | h' | h' <;> rw [h, h'] <;> rfl

/-- Convolving with a kernel and then with another one is convolving with their composition. -/
theorem conv_composed (hpw : 0 < pw) (hph : 0 < ph) (haw : aw = 1 ∨ aw = 3 ∨ aw = 5) (hah : ah = 1 ∨ ah = 3 ∨ ah = 5) (hbw : bw = 1 ∨ bw = 3 ∨ bw = 5) (hbh : bh = 1 ∨ bh = 3 ∨ bh = 5) (h1 : aw + bw - 1 ≤ 5) (h2 : ah + bh - 1 ≤ 5)
    (hx : allIn (-1000) 1000 xs = true) (hA : allIn (-50) 50 A = true) (hB : allIn (-50) 50 B = true) :
    img pw ph (convG 3 pw ph (img pw ph (convG 3 pw ph xs aw ah A)) bw bh B) = img pw ph (convG 3 pw ph xs (aw + bw - 1) (ah + bh - 1) (compL aw ah bw bh A B)) := by
  have hk : aw * ah ≤ 25 := by have := Nat.mul_le_mul (show aw ≤ 5 by omega) (show ah ≤ 5 by omega); omega
  have ba := fun x y => convG_bdB (bd := 3) (B := 1000) (C := 50) (by decide) (by decide) hx hA hk pw ph x y
  have key := fun x y => convG_comp (xs := xs) (A := A) (B := B) hpw hph haw hah hbw hbh (fun x y => ⟨by have := (ba x y).1; omega, by have := (ba x y).2; omega⟩) (compL aw ah bw bh A B) (fun p hp => by
    rw [compL_px hp]
    have := conF_bd (bw := bw) (bh := bh) hA hB hk p
    unfold compT clamp
    omega) x y
  refine img_congr fun x y => by rw [key]
end

end Go.Proofs.Ytjglfeonoiljlaa
namespace Go.Proofs.Ytjglfeonoiljlaa
open Go Go.RowKit Go.Shelf
set_option linter.unusedVariables false
set_option linter.unusedSimpArgs false

theorem allIn_iff {lo hi : Int} {xs : List Int} : allIn lo hi xs = true ↔ ∀ j : Nat, j < xs.length → lo ≤ px xs j ∧ px xs j ≤ hi := by
  unfold allIn
  rw [List.all_eq_true]
  constructor
  · intro h j hj
    have := h xs[j] (List.getElem_mem hj)
    simp only [Bool.and_eq_true, decide_eq_true_eq] at this
    rw [px_nat, List.getElem?_eq_getElem hj]
    exact this
  · intro h x hx
    obtain ⟨j, hj, rfl⟩ := List.getElem_of_mem hx
    have := h j hj
    rw [px_nat, List.getElem?_eq_getElem hj] at this
    simp only [Bool.and_eq_true, decide_eq_true_eq]
    exact this

set_option maxRecDepth 100000 in
set_option maxHeartbeats 4000000 in
theorem modest_any (iw ih : Int) (a : Option Addr) (c n : Nat) (xs : List Int) (hn : Hid (xs.length = n)) (most : Int) (hm0 : 0 ≤ most) (hm1 : most ≤ 1000) (r : Bool) (hres : Hid (allIn (-most) most xs = r)) (h0 : 0 < n) (w : World) (hm : n ≤ 9223372036854775807) (hr : Rd w.heap.size w a xs) :
    Calls Try.prog 69 #[imv iw ih a n c, .int .i64 most] w fun e w' => e = .returned (.bool r) ∧ Below w.heap.size w w' := by
  obtain ⟨ba, oa, rfl, hba, hca⟩ := rd_at hr hn.out h0
  have hcaH := Lib.hid hca
  clear hca
  have hB0 : Below w.heap.size w (w.alloc (.cells #[.int .i64 iw, .int .i64 ih, .slice (some ⟨ba, oa, none⟩) n c] 24)) := below_al (Below.refl _ _) _
  have ka := Blk.new w 24 #[.int .i64 iw, .int .i64 ih, .slice (some ⟨ba, oa, none⟩) n c]
  obtain ⟨W, hW⟩ : ∃ W, w.alloc (.cells #[.int .i64 iw, .int .i64 ih, .slice (some ⟨ba, oa, none⟩) n c] 24) = W := ⟨_, rfl⟩
  rw [hW] at hB0 ka
  have ma0 := ka.cell (i := 0) rfl
  have ma1 := ka.cell (i := 1) rfl
  have ma2 := ka.cell (i := 2) rfl
  go_enter Try.func69, Try.ntmps69
  go_wp2_with fail
  clear hW
  go_loop [5] (fun i => ∃ k : Nat, k ≤ n ∧ i = .int .i64 (k : Int) ∧ Hid (∀ j : Nat, j < k → -most ≤ px xs j ∧ px xs j ≤ most)) (fun i => n - (intOf i).toNat)
  case atStart => exact ⟨0, Nat.zero_le _, rfl, Lib.hid (fun j hj => by omega)⟩
  case round =>
    obtain ⟨k, hkn, rfl, hle⟩ := hrel
    by_cases hk : k < n
    · have cx := (hB0.cell (p := ⟨ba, oa + k, none⟩) hba).trans (hcaH.out k hk)
      obtain ⟨xv, hxv⟩ : ∃ v, px xs (k : Int) = v := ⟨_, rfl⟩
      have hlow : xv < -most → r = false := fun h => by
        rw [← hres.out]
        cases hb : allIn (-most) most xs with
        | false => rfl
        | true => have := (allIn_iff.1 hb) k (by rw [hn.out]; exact hk); rw [hxv] at this; omega
      have hhigh : most < xv → r = false := fun h => by
        rw [← hres.out]
        cases hb : allIn (-most) most xs with
        | false => rfl
        | true => have := (allIn_iff.1 hb) k (by rw [hn.out]; exact hk); rw [hxv] at this; omega
      have hle2 : ¬ xv < -most → ¬ most < xv → Hid (∀ j : Nat, j < k + 1 → -most ≤ px xs j ∧ px xs j ≤ most) := fun h1 h2 => Lib.hid (fun j hj => by
        by_cases hjk : j = k
        · subst hjk; rw [hxv]; omega
        · exact hle.out j (by omega))
      rw [hxv] at cx
      clear hxv
      by_cases h1 : xv < -most
      · have e1 : decide (xv < -most) = true := decide_eq_true h1
        obtain rfl : r = false := hlow h1
        clear hlow hhigh hle2 h1
        go_wp2_with fail
        go_ret
        exact ⟨rfl, hB0⟩
      · have e1 : decide (xv < -most) = false := decide_eq_false h1
        by_cases h2 : most < xv
        · have e2 : decide (most < xv) = true := decide_eq_true h2
          obtain rfl : r = false := hhigh h2
          clear hlow hhigh hle2 h1 h2
          go_wp2_with fail
          go_ret
          exact ⟨rfl, hB0⟩
        · have e2 : decide (most < xv) = false := decide_eq_false h2
          have hle3 := hle2 h1 h2
          clear hlow hhigh hle2 h1 h2
          go_wp2_with fail
          go_round
          case rel => exact ⟨k + 1, by omega, by go_num, hle3⟩
          case measure => simp [intOf]; omega
    · have hkk : n = k := by omega
      subst hkk
      obtain rfl : r = true := by rw [← hres.out]; exact allIn_iff.2 (by rw [hn.out]; exact hle.out)
      go_wp2_with fail
      go_ret
      exact ⟨rfl, hB0⟩

set_option maxRecDepth 100000 in
set_option maxHeartbeats 4000000 in
theorem small_any (iw ih : Int) (a : Option Addr) (c n : Nat) (xs : List Int) (hn : Hid (xs.length = n)) (most : Int) (hm0 : 0 ≤ most) (hm1 : most ≤ 1000) (r : Bool) (hres : Hid (allIn (-most) most xs = r)) (h0 : 0 < n) (w : World) (hm : n ≤ 9223372036854775807) (hr : Rd w.heap.size w a xs) :
    Calls Try.prog 70 #[imv iw ih a n c, .int .i64 most] w fun e w' => e = .returned (.bool r) ∧ Below w.heap.size w w' := by
  obtain ⟨ba, oa, rfl, hba, hca⟩ := rd_at hr hn.out h0
  have hcaH := Lib.hid hca
  clear hca
  have hB0 : Below w.heap.size w (w.alloc (.cells #[.int .i64 iw, .int .i64 ih, .slice (some ⟨ba, oa, none⟩) n c] 64)) := below_al (Below.refl _ _) _
  have ka := Blk.new w 64 #[.int .i64 iw, .int .i64 ih, .slice (some ⟨ba, oa, none⟩) n c]
  obtain ⟨W, hW⟩ : ∃ W, w.alloc (.cells #[.int .i64 iw, .int .i64 ih, .slice (some ⟨ba, oa, none⟩) n c] 64) = W := ⟨_, rfl⟩
  rw [hW] at hB0 ka
  have ma0 := ka.cell (i := 0) rfl
  have ma1 := ka.cell (i := 1) rfl
  have ma2 := ka.cell (i := 2) rfl
  go_enter Try.func70, Try.ntmps70
  go_wp2_with fail
  clear hW
  go_loop [5] (fun i => ∃ k : Nat, k ≤ n ∧ i = .int .i64 (k : Int) ∧ Hid (∀ j : Nat, j < k → -most ≤ px xs j ∧ px xs j ≤ most)) (fun i => n - (intOf i).toNat)
  case atStart => exact ⟨0, Nat.zero_le _, rfl, Lib.hid (fun j hj => by omega)⟩
  case round =>
    obtain ⟨k, hkn, rfl, hle⟩ := hrel
    by_cases hk : k < n
    · have cx := (hB0.cell (p := ⟨ba, oa + k, none⟩) hba).trans (hcaH.out k hk)
      obtain ⟨xv, hxv⟩ : ∃ v, px xs (k : Int) = v := ⟨_, rfl⟩
      have hlow : xv < -most → r = false := fun h => by
        rw [← hres.out]
        cases hb : allIn (-most) most xs with
        | false => rfl
        | true => have := (allIn_iff.1 hb) k (by rw [hn.out]; exact hk); rw [hxv] at this; omega
      have hhigh : most < xv → r = false := fun h => by
        rw [← hres.out]
        cases hb : allIn (-most) most xs with
        | false => rfl
        | true => have := (allIn_iff.1 hb) k (by rw [hn.out]; exact hk); rw [hxv] at this; omega
      have hle2 : ¬ xv < -most → ¬ most < xv → Hid (∀ j : Nat, j < k + 1 → -most ≤ px xs j ∧ px xs j ≤ most) := fun h1 h2 => Lib.hid (fun j hj => by
        by_cases hjk : j = k
        · subst hjk; rw [hxv]; omega
        · exact hle.out j (by omega))
      rw [hxv] at cx
      clear hxv
      by_cases h1 : xv < -most
      · have e1 : decide (xv < -most) = true := decide_eq_true h1
        obtain rfl : r = false := hlow h1
        clear hlow hhigh hle2 h1
        go_wp2_with fail
        go_ret
        exact ⟨rfl, hB0⟩
      · have e1 : decide (xv < -most) = false := decide_eq_false h1
        by_cases h2 : most < xv
        · have e2 : decide (most < xv) = true := decide_eq_true h2
          obtain rfl : r = false := hhigh h2
          clear hlow hhigh hle2 h1 h2
          go_wp2_with fail
          go_ret
          exact ⟨rfl, hB0⟩
        · have e2 : decide (most < xv) = false := decide_eq_false h2
          have hle3 := hle2 h1 h2
          clear hlow hhigh hle2 h1 h2
          go_wp2_with fail
          go_round
          case rel => exact ⟨k + 1, by omega, by go_num, hle3⟩
          case measure => simp [intOf]; omega
    · have hkk : n = k := by omega
      subst hkk
      obtain rfl : r = true := by rw [← hres.out]; exact allIn_iff.2 (by rw [hn.out]; exact hle.out)
      go_wp2_with fail
      go_ret
      exact ⟨rfl, hB0⟩

end Go.Proofs.Ytjglfeonoiljlaa
namespace Go.Proofs.Ytjglfeonoiljlaa
open Go Go.RowKit Go.Shelf
set_option linter.unusedVariables false
set_option linter.unusedSimpArgs false

theorem compS_bad {aw ah bw bh : Int} {A B : List Int} (h : (kernOk aw ah A && kernOk bw bh B) = false) : compS aw ah A bw bh B = { w := 0, h := 0, px := [], err := 22 } := by
  unfold compS
  rw [if_neg (by rw [h]; decide)]
  rfl
theorem compS_big {aw ah bw bh : Int} {A B : List Int} (h : (kernOk aw ah A && kernOk bw bh B) = true) (h2 : ¬ (aw + bw - 1 ≤ 5 ∧ ah + bh - 1 ≤ 5)) : compS aw ah A bw bh B = { w := 0, h := 0, px := [], err := 21 } := by
  unfold compS
  rw [if_pos h, if_neg (by simpa using h2)]
  rfl
theorem compS_ok {aw ah bw bh : Nat} {A B : List Int} (h : (kernOk aw ah A && kernOk bw bh B) = true) (h1 : 0 < aw) (h2 : 0 < ah) (h3 : aw + bw - 1 ≤ 5) (h4 : ah + bh - 1 ≤ 5) : compS aw ah A bw bh B = { w := ((aw + bw - 1 : Nat) : Int), h := ((ah + bh - 1 : Nat) : Int), px := compL aw ah bw bh A B, err := 0 } := by
  unfold compS
  rw [if_pos h, if_pos (decide_eq_true ⟨by omega, by omega⟩)]
  simp only [Int.toNat_natCast]
  rw [show (aw : Int) + (bw : Int) - 1 = ((aw + bw - 1 : Nat) : Int) by omega, show (ah : Int) + (bh : Int) - 1 = ((ah + bh - 1 : Nat) : Int) by omega]

set_option maxRecDepth 100000 in
set_option maxHeartbeats 32000000 in
theorem law_composed (iw ih : Int) (a : Option Addr) (c n : Nat) (xs : List Int) (hn : Hid (xs.length = n)) (aw ah : Int) (ax : Option Addr) (ca na : Nat) (A : List Int) (hna : Hid (A.length = na)) (bw bh : Int) (bx : Option Addr) (cb nb : Nat) (B : List Int) (hnb : Hid (B.length = nb)) (w : World)
    (hm : n ≤ 9223372036854775807) (hr : Rd w.heap.size w a xs) (hma : na ≤ 9223372036854775807) (hra : Rd w.heap.size w ax A) (hmb : nb ≤ 9223372036854775807) (hrb : Rd w.heap.size w bx B) :
    Calls Try.prog 17 #[imv iw ih a n c, imv aw ah ax na ca, imv bw bh bx nb cb] w fun e w' => e = .returned (.bool true) ∧ Below w.heap.size w w' := by
  obtain ⟨zv, hzv0⟩ : ∃ v, vld iw ih xs = v := ⟨_, rfl⟩
  have hzv := Lib.hid hzv0
  obtain ⟨va, hva0⟩ : ∃ v, kernOk aw ah A = v := ⟨_, rfl⟩
  have hka := Lib.hid hva0
  obtain ⟨vb, hvb0⟩ : ∃ v, kernOk bw bh B = v := ⟨_, rfl⟩
  have hkb := Lib.hid hvb0
  clear hzv0 hva0 hvb0
  have hl0 := Lib.hid (show ([] : List Int).length = 0 from rfl)
  cases va with
  | false =>
    have hSK := Lib.hid (compS_bad (show (kernOk aw ah A && kernOk bw bh B) = false by rw [hka.out]; rfl))
    have hSL := Lib.hid (compS_bad (show (kernOk bw bh B && kernOk aw ah A) = false by rw [hka.out, Bool.and_false]))
    have hB : Below w.heap.size w (((w.alloc (.cells #[.int .i64 iw, .int .i64 ih, .slice a n c] 24)).alloc (.cells #[.int .i64 aw, .int .i64 ah, .slice ax na ca] 64)).alloc (.cells #[.int .i64 bw, .int .i64 bh, .slice bx nb cb] 64)) := below_al (below_al (below_al (Below.refl _ _) _) _) _
    have km := (((Blk.new w 24 #[.int .i64 iw, .int .i64 ih, .slice a n c]).alloc (.cells #[.int .i64 aw, .int .i64 ah, .slice ax na ca] 64)).alloc (.cells #[.int .i64 bw, .int .i64 bh, .slice bx nb cb] 64))
    have ka := ((Blk.new (w.alloc (.cells #[.int .i64 iw, .int .i64 ih, .slice a n c] 24)) 64 #[.int .i64 aw, .int .i64 ah, .slice ax na ca]).alloc (.cells #[.int .i64 bw, .int .i64 bh, .slice bx nb cb] 64))
    have kb := (Blk.new ((w.alloc (.cells #[.int .i64 iw, .int .i64 ih, .slice a n c] 24)).alloc (.cells #[.int .i64 aw, .int .i64 ah, .slice ax na ca] 64)) 64 #[.int .i64 bw, .int .i64 bh, .slice bx nb cb])
    simp only [World.size_alloc] at ka kb
    obtain ⟨W0, hW⟩ : ∃ W, (((w.alloc (.cells #[.int .i64 iw, .int .i64 ih, .slice a n c] 24)).alloc (.cells #[.int .i64 aw, .int .i64 ah, .slice ax na ca] 64)).alloc (.cells #[.int .i64 bw, .int .i64 bh, .slice bx nb cb] 64)) = W := ⟨_, rfl⟩
    rw [hW] at hB km ka kb
    have m0 := km.cell (i := 0) rfl
    have m1 := km.cell (i := 1) rfl
    have m2 := km.cell (i := 2) rfl
    have s0 := ka.cell (i := 0) rfl
    have s1 := ka.cell (i := 1) rfl
    have s2 := ka.cell (i := 2) rfl
    have t0 := kb.cell (i := 0) rfl
    have t1 := kb.cell (i := 1) rfl
    have t2 := kb.cell (i := 2) rfl
    go_enter Try.func17, Try.ntmps17
    go_wp2_with fail
    clear hW
    refine (alive_any _).mono ?_
    rintro e V1 ⟨rfl, hb⟩
    clear m0 m1 m2 s0 s1 s2 t0 t1 t2
    replace km := km.below hb km.lt
    replace ka := ka.below hb ka.lt
    replace kb := kb.below hb kb.lt
    replace hB := hB.trans (hb.mono hB.size)
    have m0 := km.cell (i := 0) rfl
    have m1 := km.cell (i := 1) rfl
    have m2 := km.cell (i := 2) rfl
    have s0 := ka.cell (i := 0) rfl
    have s1 := ka.cell (i := 1) rfl
    have s2 := ka.cell (i := 2) rfl
    have t0 := kb.cell (i := 0) rfl
    have t1 := kb.cell (i := 1) rfl
    have t2 := kb.cell (i := 2) rfl
    clear hb
    go_wp2_with fail
    have hcall := Compose_any aw ah ax ca na A hna bw bh bx cb nb B hnb _ (by omega) ((hra.below (Nat.le_refl _) hB).mono hB.size) (by omega) ((hrb.below (Nat.le_refl _) hB).mono hB.size)
    rw [hSK.out] at hcall
    refine hcall.mono ?_
    clear hcall
    rintro e V2 ⟨⟨v, hev, sl, hvl, hrow⟩, hb⟩
    have rK : V2.ownsRow w.heap.size 3 1 sl 0 ((([] : List Int)).map (Value.int .i64)) := row_base (row_len (k := (([] : List Int)).length) hl0.out hrow) hB.size
    obtain ⟨srKa, srKc, rfl⟩ := row_slice rK
    have he : e = .returned (.tuple #[.agg #[.int .i64 0, .int .i64 0, .slice srKa 0 srKc], .int .i64 22]) := by rw [hev, hvl]
    subst he
    clear hrow hev hvl
    clear m0 m1 m2 s0 s1 s2 t0 t1 t2
    replace km := km.below hb km.lt
    replace ka := ka.below hb ka.lt
    replace kb := kb.below hb kb.lt
    replace hB := hB.trans (hb.mono hB.size)
    have m0 := km.cell (i := 0) rfl
    have m1 := km.cell (i := 1) rfl
    have m2 := km.cell (i := 2) rfl
    have s0 := ka.cell (i := 0) rfl
    have s1 := ka.cell (i := 1) rfl
    have s2 := ka.cell (i := 2) rfl
    have t0 := kb.cell (i := 0) rfl
    have t1 := kb.cell (i := 1) rfl
    have t2 := kb.cell (i := 2) rfl
    clear hb
    obtain ⟨V3, hW⟩ : ∃ V3, V2.alloc (.cells #[.int .i64 0, .int .i64 0, .slice srKa 0 srKc] 64) = V3 := ⟨_, rfl⟩
    obtain ⟨bkK, hbx⟩ : ∃ bkK, V2.heap.size = bkK := ⟨_, rfl⟩
    have kK := Blk.new V2 64 #[.int .i64 0, .int .i64 0, .slice srKa 0 srKc]
    rw [hW, hbx] at kK
    have hb : Below V2.heap.size V2 V3 := alloc_below hW
    have km' := km.below hb km.lt
    have lkmkK := km.lt
    rw [hbx] at lkmkK
    have ka' := ka.below hb ka.lt
    have lkakK := ka.lt
    rw [hbx] at lkakK
    have kb' := kb.below hb kb.lt
    have lkbkK := kb.lt
    rw [hbx] at lkbkK
    have m0' := km'.cell (i := 0) rfl
    have m1' := km'.cell (i := 1) rfl
    have m2' := km'.cell (i := 2) rfl
    have s0' := ka'.cell (i := 0) rfl
    have s1' := ka'.cell (i := 1) rfl
    have s2' := ka'.cell (i := 2) rfl
    have t0' := kb'.cell (i := 0) rfl
    have t1' := kb'.cell (i := 1) rfl
    have t2' := kb'.cell (i := 2) rfl
    have xk0 := kK.cell (i := 0) rfl
    have xk1 := kK.cell (i := 1) rfl
    have xk2 := kK.cell (i := 2) rfl
    have fxk0 := kK.frozen 0
    have fxk1 := kK.frozen 1
    have fxk2 := kK.frozen 2
    go_wp2_with fail
    clear hW
    clear hbx
    clear m0 m1 m2 s0 s1 s2 t0 t1 t2
    clear m0' m1' m2' s0' s1' s2' t0' t1' t2'
    replace km := km'
    clear km'
    replace ka := ka'
    clear ka'
    replace kb := kb'
    clear kb'
    have m0 := km.cell (i := 0) rfl
    have m1 := km.cell (i := 1) rfl
    have m2 := km.cell (i := 2) rfl
    have s0 := ka.cell (i := 0) rfl
    have s1 := ka.cell (i := 1) rfl
    have s2 := ka.cell (i := 2) rfl
    have t0 := kb.cell (i := 0) rfl
    have t1 := kb.cell (i := 1) rfl
    have t2 := kb.cell (i := 2) rfl
    replace rK := row_below rK hb
    replace hB := hB.trans (hb.mono hB.size)
    clear hb
    have hcall := Compose_any bw bh bx cb nb B hnb aw ah ax ca na A hna _ (by omega) ((hrb.below (Nat.le_refl _) hB).mono hB.size) (by omega) ((hra.below (Nat.le_refl _) hB).mono hB.size)
    rw [hSL.out] at hcall
    refine hcall.mono ?_
    clear hcall
    rintro e V4 ⟨⟨v, hev, sl, hvl, hrow⟩, hb⟩
    have rL : V4.ownsRow w.heap.size 3 1 sl 0 ((([] : List Int)).map (Value.int .i64)) := row_base (row_len (k := (([] : List Int)).length) hl0.out hrow) hB.size
    obtain ⟨srLa, srLc, rfl⟩ := row_slice rL
    have he : e = .returned (.tuple #[.agg #[.int .i64 0, .int .i64 0, .slice srLa 0 srLc], .int .i64 22]) := by rw [hev, hvl]
    subst he
    clear hrow hev hvl
    clear m0 m1 m2 s0 s1 s2 t0 t1 t2 xk0 xk1 xk2 fxk0 fxk1 fxk2
    replace km := km.below hb km.lt
    replace ka := ka.below hb ka.lt
    replace kb := kb.below hb kb.lt
    replace kK := kK.below hb kK.lt
    replace rK := row_below rK hb
    replace hB := hB.trans (hb.mono hB.size)
    have m0 := km.cell (i := 0) rfl
    have m1 := km.cell (i := 1) rfl
    have m2 := km.cell (i := 2) rfl
    have s0 := ka.cell (i := 0) rfl
    have s1 := ka.cell (i := 1) rfl
    have s2 := ka.cell (i := 2) rfl
    have t0 := kb.cell (i := 0) rfl
    have t1 := kb.cell (i := 1) rfl
    have t2 := kb.cell (i := 2) rfl
    have xk0 := kK.cell (i := 0) rfl
    have xk1 := kK.cell (i := 1) rfl
    have xk2 := kK.cell (i := 2) rfl
    have fxk0 := kK.frozen 0
    have fxk1 := kK.frozen 1
    have fxk2 := kK.frozen 2
    clear hb
    obtain ⟨V5, hW⟩ : ∃ V5, V4.alloc (.cells #[.int .i64 0, .int .i64 0, .slice srLa 0 srLc] 64) = V5 := ⟨_, rfl⟩
    obtain ⟨bkL, hbx⟩ : ∃ bkL, V4.heap.size = bkL := ⟨_, rfl⟩
    have kL := Blk.new V4 64 #[.int .i64 0, .int .i64 0, .slice srLa 0 srLc]
    rw [hW, hbx] at kL
    have hb : Below V4.heap.size V4 V5 := alloc_below hW
    have km' := km.below hb km.lt
    have lkmkL := km.lt
    rw [hbx] at lkmkL
    have ka' := ka.below hb ka.lt
    have lkakL := ka.lt
    rw [hbx] at lkakL
    have kb' := kb.below hb kb.lt
    have lkbkL := kb.lt
    rw [hbx] at lkbkL
    have kK' := kK.below hb kK.lt
    have lkKkL := kK.lt
    rw [hbx] at lkKkL
    have m0' := km'.cell (i := 0) rfl
    have m1' := km'.cell (i := 1) rfl
    have m2' := km'.cell (i := 2) rfl
    have s0' := ka'.cell (i := 0) rfl
    have s1' := ka'.cell (i := 1) rfl
    have s2' := ka'.cell (i := 2) rfl
    have t0' := kb'.cell (i := 0) rfl
    have t1' := kb'.cell (i := 1) rfl
    have t2' := kb'.cell (i := 2) rfl
    have xk0' := kK'.cell (i := 0) rfl
    have xk1' := kK'.cell (i := 1) rfl
    have xk2' := kK'.cell (i := 2) rfl
    have fxk0' := kK'.frozen 0
    have fxk1' := kK'.frozen 1
    have fxk2' := kK'.frozen 2
    have xl0 := kL.cell (i := 0) rfl
    have xl1 := kL.cell (i := 1) rfl
    have xl2 := kL.cell (i := 2) rfl
    have fxl0 := kL.frozen 0
    have fxl1 := kL.frozen 1
    have fxl2 := kL.frozen 2
    go_wp2_with fail
    clear hW
    clear hbx
    clear m0 m1 m2 s0 s1 s2 t0 t1 t2 xk0 xk1 xk2 fxk0 fxk1 fxk2
    clear m0' m1' m2' s0' s1' s2' t0' t1' t2' xk0' xk1' xk2' fxk0' fxk1' fxk2'
    replace km := km'
    clear km'
    replace ka := ka'
    clear ka'
    replace kb := kb'
    clear kb'
    replace kK := kK'
    clear kK'
    have m0 := km.cell (i := 0) rfl
    have m1 := km.cell (i := 1) rfl
    have m2 := km.cell (i := 2) rfl
    have s0 := ka.cell (i := 0) rfl
    have s1 := ka.cell (i := 1) rfl
    have s2 := ka.cell (i := 2) rfl
    have t0 := kb.cell (i := 0) rfl
    have t1 := kb.cell (i := 1) rfl
    have t2 := kb.cell (i := 2) rfl
    have xk0 := kK.cell (i := 0) rfl
    have xk1 := kK.cell (i := 1) rfl
    have xk2 := kK.cell (i := 2) rfl
    have fxk0 := kK.frozen 0
    have fxk1 := kK.frozen 1
    have fxk2 := kK.frozen 2
    replace rK := row_below rK hb
    replace rL := row_below rL hb
    replace hB := hB.trans (hb.mono hB.size)
    clear hb
    refine (ValidKernel_any aw ah ax ca na A hna _ hka _ (by omega) ((hra.below (Nat.le_refl _) hB).mono hB.size)).mono ?_
    rintro e V6 ⟨rfl, hb⟩
    clear m0 m1 m2 s0 s1 s2 t0 t1 t2 xk0 xk1 xk2 fxk0 fxk1 fxk2 xl0 xl1 xl2 fxl0 fxl1 fxl2
    replace km := km.below hb km.lt
    replace ka := ka.below hb ka.lt
    replace kb := kb.below hb kb.lt
    replace kK := kK.below hb kK.lt
    replace kL := kL.below hb kL.lt
    replace rK := row_below rK hb
    replace rL := row_below rL hb
    replace hB := hB.trans (hb.mono hB.size)
    have m0 := km.cell (i := 0) rfl
    have m1 := km.cell (i := 1) rfl
    have m2 := km.cell (i := 2) rfl
    have s0 := ka.cell (i := 0) rfl
    have s1 := ka.cell (i := 1) rfl
    have s2 := ka.cell (i := 2) rfl
    have t0 := kb.cell (i := 0) rfl
    have t1 := kb.cell (i := 1) rfl
    have t2 := kb.cell (i := 2) rfl
    have xk0 := kK.cell (i := 0) rfl
    have xk1 := kK.cell (i := 1) rfl
    have xk2 := kK.cell (i := 2) rfl
    have fxk0 := kK.frozen 0
    have fxk1 := kK.frozen 1
    have fxk2 := kK.frozen 2
    have xl0 := kL.cell (i := 0) rfl
    have xl1 := kL.cell (i := 1) rfl
    have xl2 := kL.cell (i := 2) rfl
    have fxl0 := kL.frozen 0
    have fxl1 := kL.frozen 1
    have fxl2 := kL.frozen 2
    clear hb
    go_wp2_with fail
    go_ret
    exact ⟨rfl, hB⟩
  | true =>
    cases vb with
    | false =>
      have hSK := Lib.hid (compS_bad (show (kernOk aw ah A && kernOk bw bh B) = false by rw [hkb.out, Bool.and_false]))
      have hSL := Lib.hid (compS_bad (show (kernOk bw bh B && kernOk aw ah A) = false by rw [hkb.out]; rfl))
      have hB : Below w.heap.size w (((w.alloc (.cells #[.int .i64 iw, .int .i64 ih, .slice a n c] 24)).alloc (.cells #[.int .i64 aw, .int .i64 ah, .slice ax na ca] 64)).alloc (.cells #[.int .i64 bw, .int .i64 bh, .slice bx nb cb] 64)) := below_al (below_al (below_al (Below.refl _ _) _) _) _
      have km := (((Blk.new w 24 #[.int .i64 iw, .int .i64 ih, .slice a n c]).alloc (.cells #[.int .i64 aw, .int .i64 ah, .slice ax na ca] 64)).alloc (.cells #[.int .i64 bw, .int .i64 bh, .slice bx nb cb] 64))
      have ka := ((Blk.new (w.alloc (.cells #[.int .i64 iw, .int .i64 ih, .slice a n c] 24)) 64 #[.int .i64 aw, .int .i64 ah, .slice ax na ca]).alloc (.cells #[.int .i64 bw, .int .i64 bh, .slice bx nb cb] 64))
      have kb := (Blk.new ((w.alloc (.cells #[.int .i64 iw, .int .i64 ih, .slice a n c] 24)).alloc (.cells #[.int .i64 aw, .int .i64 ah, .slice ax na ca] 64)) 64 #[.int .i64 bw, .int .i64 bh, .slice bx nb cb])
      simp only [World.size_alloc] at ka kb
      obtain ⟨W0, hW⟩ : ∃ W, (((w.alloc (.cells #[.int .i64 iw, .int .i64 ih, .slice a n c] 24)).alloc (.cells #[.int .i64 aw, .int .i64 ah, .slice ax na ca] 64)).alloc (.cells #[.int .i64 bw, .int .i64 bh, .slice bx nb cb] 64)) = W := ⟨_, rfl⟩
      rw [hW] at hB km ka kb
      have m0 := km.cell (i := 0) rfl
      have m1 := km.cell (i := 1) rfl
      have m2 := km.cell (i := 2) rfl
      have s0 := ka.cell (i := 0) rfl
      have s1 := ka.cell (i := 1) rfl
      have s2 := ka.cell (i := 2) rfl
      have t0 := kb.cell (i := 0) rfl
      have t1 := kb.cell (i := 1) rfl
      have t2 := kb.cell (i := 2) rfl
      go_enter Try.func17, Try.ntmps17
      go_wp2_with fail
      clear hW
      refine (alive_any _).mono ?_
      rintro e V1 ⟨rfl, hb⟩
      clear m0 m1 m2 s0 s1 s2 t0 t1 t2
      replace km := km.below hb km.lt
      replace ka := ka.below hb ka.lt
      replace kb := kb.below hb kb.lt
      replace hB := hB.trans (hb.mono hB.size)
      have m0 := km.cell (i := 0) rfl
      have m1 := km.cell (i := 1) rfl
      have m2 := km.cell (i := 2) rfl
      have s0 := ka.cell (i := 0) rfl
      have s1 := ka.cell (i := 1) rfl
      have s2 := ka.cell (i := 2) rfl
      have t0 := kb.cell (i := 0) rfl
      have t1 := kb.cell (i := 1) rfl
      have t2 := kb.cell (i := 2) rfl
      clear hb
      go_wp2_with fail
      have hcall := Compose_any aw ah ax ca na A hna bw bh bx cb nb B hnb _ (by omega) ((hra.below (Nat.le_refl _) hB).mono hB.size) (by omega) ((hrb.below (Nat.le_refl _) hB).mono hB.size)
      rw [hSK.out] at hcall
      refine hcall.mono ?_
      clear hcall
      rintro e V2 ⟨⟨v, hev, sl, hvl, hrow⟩, hb⟩
      have rK : V2.ownsRow w.heap.size 3 1 sl 0 ((([] : List Int)).map (Value.int .i64)) := row_base (row_len (k := (([] : List Int)).length) hl0.out hrow) hB.size
      obtain ⟨srKa, srKc, rfl⟩ := row_slice rK
      have he : e = .returned (.tuple #[.agg #[.int .i64 0, .int .i64 0, .slice srKa 0 srKc], .int .i64 22]) := by rw [hev, hvl]
      subst he
      clear hrow hev hvl
      clear m0 m1 m2 s0 s1 s2 t0 t1 t2
      replace km := km.below hb km.lt
      replace ka := ka.below hb ka.lt
      replace kb := kb.below hb kb.lt
      replace hB := hB.trans (hb.mono hB.size)
      have m0 := km.cell (i := 0) rfl
      have m1 := km.cell (i := 1) rfl
      have m2 := km.cell (i := 2) rfl
      have s0 := ka.cell (i := 0) rfl
      have s1 := ka.cell (i := 1) rfl
      have s2 := ka.cell (i := 2) rfl
      have t0 := kb.cell (i := 0) rfl
      have t1 := kb.cell (i := 1) rfl
      have t2 := kb.cell (i := 2) rfl
      clear hb
      obtain ⟨V3, hW⟩ : ∃ V3, V2.alloc (.cells #[.int .i64 0, .int .i64 0, .slice srKa 0 srKc] 64) = V3 := ⟨_, rfl⟩
      obtain ⟨bkK, hbx⟩ : ∃ bkK, V2.heap.size = bkK := ⟨_, rfl⟩
      have kK := Blk.new V2 64 #[.int .i64 0, .int .i64 0, .slice srKa 0 srKc]
      rw [hW, hbx] at kK
      have hb : Below V2.heap.size V2 V3 := alloc_below hW
      have km' := km.below hb km.lt
      have lkmkK := km.lt
      rw [hbx] at lkmkK
      have ka' := ka.below hb ka.lt
      have lkakK := ka.lt
      rw [hbx] at lkakK
      have kb' := kb.below hb kb.lt
      have lkbkK := kb.lt
      rw [hbx] at lkbkK
      have m0' := km'.cell (i := 0) rfl
      have m1' := km'.cell (i := 1) rfl
      have m2' := km'.cell (i := 2) rfl
      have s0' := ka'.cell (i := 0) rfl
      have s1' := ka'.cell (i := 1) rfl
      have s2' := ka'.cell (i := 2) rfl
      have t0' := kb'.cell (i := 0) rfl
      have t1' := kb'.cell (i := 1) rfl
      have t2' := kb'.cell (i := 2) rfl
      have xk0 := kK.cell (i := 0) rfl
      have xk1 := kK.cell (i := 1) rfl
      have xk2 := kK.cell (i := 2) rfl
      have fxk0 := kK.frozen 0
      have fxk1 := kK.frozen 1
      have fxk2 := kK.frozen 2
      go_wp2_with fail
      clear hW
      clear hbx
      clear m0 m1 m2 s0 s1 s2 t0 t1 t2
      clear m0' m1' m2' s0' s1' s2' t0' t1' t2'
      replace km := km'
      clear km'
      replace ka := ka'
      clear ka'
      replace kb := kb'
      clear kb'
      have m0 := km.cell (i := 0) rfl
      have m1 := km.cell (i := 1) rfl
      have m2 := km.cell (i := 2) rfl
      have s0 := ka.cell (i := 0) rfl
      have s1 := ka.cell (i := 1) rfl
      have s2 := ka.cell (i := 2) rfl
      have t0 := kb.cell (i := 0) rfl
      have t1 := kb.cell (i := 1) rfl
      have t2 := kb.cell (i := 2) rfl
      replace rK := row_below rK hb
      replace hB := hB.trans (hb.mono hB.size)
      clear hb
      have hcall := Compose_any bw bh bx cb nb B hnb aw ah ax ca na A hna _ (by omega) ((hrb.below (Nat.le_refl _) hB).mono hB.size) (by omega) ((hra.below (Nat.le_refl _) hB).mono hB.size)
      rw [hSL.out] at hcall
      refine hcall.mono ?_
      clear hcall
      rintro e V4 ⟨⟨v, hev, sl, hvl, hrow⟩, hb⟩
      have rL : V4.ownsRow w.heap.size 3 1 sl 0 ((([] : List Int)).map (Value.int .i64)) := row_base (row_len (k := (([] : List Int)).length) hl0.out hrow) hB.size
      obtain ⟨srLa, srLc, rfl⟩ := row_slice rL
      have he : e = .returned (.tuple #[.agg #[.int .i64 0, .int .i64 0, .slice srLa 0 srLc], .int .i64 22]) := by rw [hev, hvl]
      subst he
      clear hrow hev hvl
      clear m0 m1 m2 s0 s1 s2 t0 t1 t2 xk0 xk1 xk2 fxk0 fxk1 fxk2
      replace km := km.below hb km.lt
      replace ka := ka.below hb ka.lt
      replace kb := kb.below hb kb.lt
      replace kK := kK.below hb kK.lt
      replace rK := row_below rK hb
      replace hB := hB.trans (hb.mono hB.size)
      have m0 := km.cell (i := 0) rfl
      have m1 := km.cell (i := 1) rfl
      have m2 := km.cell (i := 2) rfl
      have s0 := ka.cell (i := 0) rfl
      have s1 := ka.cell (i := 1) rfl
      have s2 := ka.cell (i := 2) rfl
      have t0 := kb.cell (i := 0) rfl
      have t1 := kb.cell (i := 1) rfl
      have t2 := kb.cell (i := 2) rfl
      have xk0 := kK.cell (i := 0) rfl
      have xk1 := kK.cell (i := 1) rfl
      have xk2 := kK.cell (i := 2) rfl
      have fxk0 := kK.frozen 0
      have fxk1 := kK.frozen 1
      have fxk2 := kK.frozen 2
      clear hb
      obtain ⟨V5, hW⟩ : ∃ V5, V4.alloc (.cells #[.int .i64 0, .int .i64 0, .slice srLa 0 srLc] 64) = V5 := ⟨_, rfl⟩
      obtain ⟨bkL, hbx⟩ : ∃ bkL, V4.heap.size = bkL := ⟨_, rfl⟩
      have kL := Blk.new V4 64 #[.int .i64 0, .int .i64 0, .slice srLa 0 srLc]
      rw [hW, hbx] at kL
      have hb : Below V4.heap.size V4 V5 := alloc_below hW
      have km' := km.below hb km.lt
      have lkmkL := km.lt
      rw [hbx] at lkmkL
      have ka' := ka.below hb ka.lt
      have lkakL := ka.lt
      rw [hbx] at lkakL
      have kb' := kb.below hb kb.lt
      have lkbkL := kb.lt
      rw [hbx] at lkbkL
      have kK' := kK.below hb kK.lt
      have lkKkL := kK.lt
      rw [hbx] at lkKkL
      have m0' := km'.cell (i := 0) rfl
      have m1' := km'.cell (i := 1) rfl
      have m2' := km'.cell (i := 2) rfl
      have s0' := ka'.cell (i := 0) rfl
      have s1' := ka'.cell (i := 1) rfl
      have s2' := ka'.cell (i := 2) rfl
      have t0' := kb'.cell (i := 0) rfl
      have t1' := kb'.cell (i := 1) rfl
      have t2' := kb'.cell (i := 2) rfl
      have xk0' := kK'.cell (i := 0) rfl
      have xk1' := kK'.cell (i := 1) rfl
      have xk2' := kK'.cell (i := 2) rfl
      have fxk0' := kK'.frozen 0
      have fxk1' := kK'.frozen 1
      have fxk2' := kK'.frozen 2
      have xl0 := kL.cell (i := 0) rfl
      have xl1 := kL.cell (i := 1) rfl
      have xl2 := kL.cell (i := 2) rfl
      have fxl0 := kL.frozen 0
      have fxl1 := kL.frozen 1
      have fxl2 := kL.frozen 2
      go_wp2_with fail
      clear hW
      clear hbx
      clear m0 m1 m2 s0 s1 s2 t0 t1 t2 xk0 xk1 xk2 fxk0 fxk1 fxk2
      clear m0' m1' m2' s0' s1' s2' t0' t1' t2' xk0' xk1' xk2' fxk0' fxk1' fxk2'
      replace km := km'
      clear km'
      replace ka := ka'
      clear ka'
      replace kb := kb'
      clear kb'
      replace kK := kK'
      clear kK'
      have m0 := km.cell (i := 0) rfl
      have m1 := km.cell (i := 1) rfl
      have m2 := km.cell (i := 2) rfl
      have s0 := ka.cell (i := 0) rfl
      have s1 := ka.cell (i := 1) rfl
      have s2 := ka.cell (i := 2) rfl
      have t0 := kb.cell (i := 0) rfl
      have t1 := kb.cell (i := 1) rfl
      have t2 := kb.cell (i := 2) rfl
      have xk0 := kK.cell (i := 0) rfl
      have xk1 := kK.cell (i := 1) rfl
      have xk2 := kK.cell (i := 2) rfl
      have fxk0 := kK.frozen 0
      have fxk1 := kK.frozen 1
      have fxk2 := kK.frozen 2
      replace rK := row_below rK hb
      replace rL := row_below rL hb
      replace hB := hB.trans (hb.mono hB.size)
      clear hb
      refine (ValidKernel_any aw ah ax ca na A hna _ hka _ (by omega) ((hra.below (Nat.le_refl _) hB).mono hB.size)).mono ?_
      rintro e V6 ⟨rfl, hb⟩
      clear m0 m1 m2 s0 s1 s2 t0 t1 t2 xk0 xk1 xk2 fxk0 fxk1 fxk2 xl0 xl1 xl2 fxl0 fxl1 fxl2
      replace km := km.below hb km.lt
      replace ka := ka.below hb ka.lt
      replace kb := kb.below hb kb.lt
      replace kK := kK.below hb kK.lt
      replace kL := kL.below hb kL.lt
      replace rK := row_below rK hb
      replace rL := row_below rL hb
      replace hB := hB.trans (hb.mono hB.size)
      have m0 := km.cell (i := 0) rfl
      have m1 := km.cell (i := 1) rfl
      have m2 := km.cell (i := 2) rfl
      have s0 := ka.cell (i := 0) rfl
      have s1 := ka.cell (i := 1) rfl
      have s2 := ka.cell (i := 2) rfl
      have t0 := kb.cell (i := 0) rfl
      have t1 := kb.cell (i := 1) rfl
      have t2 := kb.cell (i := 2) rfl
      have xk0 := kK.cell (i := 0) rfl
      have xk1 := kK.cell (i := 1) rfl
      have xk2 := kK.cell (i := 2) rfl
      have fxk0 := kK.frozen 0
      have fxk1 := kK.frozen 1
      have fxk2 := kK.frozen 2
      have xl0 := kL.cell (i := 0) rfl
      have xl1 := kL.cell (i := 1) rfl
      have xl2 := kL.cell (i := 2) rfl
      have fxl0 := kL.frozen 0
      have fxl1 := kL.frozen 1
      have fxl2 := kL.frozen 2
      clear hb
      go_wp2_with fail
      refine (ValidKernel_any bw bh bx cb nb B hnb _ hkb _ (by omega) ((hrb.below (Nat.le_refl _) hB).mono hB.size)).mono ?_
      rintro e V7 ⟨rfl, hb⟩
      clear m0 m1 m2 s0 s1 s2 t0 t1 t2 xk0 xk1 xk2 fxk0 fxk1 fxk2 xl0 xl1 xl2 fxl0 fxl1 fxl2
      replace km := km.below hb km.lt
      replace ka := ka.below hb ka.lt
      replace kb := kb.below hb kb.lt
      replace kK := kK.below hb kK.lt
      replace kL := kL.below hb kL.lt
      replace rK := row_below rK hb
      replace rL := row_below rL hb
      replace hB := hB.trans (hb.mono hB.size)
      have m0 := km.cell (i := 0) rfl
      have m1 := km.cell (i := 1) rfl
      have m2 := km.cell (i := 2) rfl
      have s0 := ka.cell (i := 0) rfl
      have s1 := ka.cell (i := 1) rfl
      have s2 := ka.cell (i := 2) rfl
      have t0 := kb.cell (i := 0) rfl
      have t1 := kb.cell (i := 1) rfl
      have t2 := kb.cell (i := 2) rfl
      have xk0 := kK.cell (i := 0) rfl
      have xk1 := kK.cell (i := 1) rfl
      have xk2 := kK.cell (i := 2) rfl
      have fxk0 := kK.frozen 0
      have fxk1 := kK.frozen 1
      have fxk2 := kK.frozen 2
      have xl0 := kL.cell (i := 0) rfl
      have xl1 := kL.cell (i := 1) rfl
      have xl2 := kL.cell (i := 2) rfl
      have fxl0 := kL.frozen 0
      have fxl1 := kL.frozen 1
      have fxl2 := kL.frozen 2
      clear hb
      go_wp2_with fail
      go_ret
      exact ⟨rfl, hB⟩
    | true =>
      by_cases hsz : aw + bw - 1 ≤ 5 ∧ ah + bh - 1 ≤ 5
      · have hk1 := hka.out
        unfold kernOk at hk1
        rw [Bool.and_eq_true] at hk1
        obtain ⟨s1, s2, s3⟩ := sidesB_true hk1.1
        have hk2 := hkb.out
        unfold kernOk at hk2
        rw [Bool.and_eq_true] at hk2
        obtain ⟨t1, t2, t3⟩ := sidesB_true hk2.1
        obtain ⟨aw, rfl⟩ : ∃ k : Nat, aw = (k : Int) := ⟨aw.toNat, by omega⟩
        obtain ⟨ah, rfl⟩ : ∃ k : Nat, ah = (k : Int) := ⟨ah.toNat, by omega⟩
        obtain ⟨bw, rfl⟩ : ∃ k : Nat, bw = (k : Int) := ⟨bw.toNat, by omega⟩
        obtain ⟨bh, rfl⟩ : ∃ k : Nat, bh = (k : Int) := ⟨bh.toNat, by omega⟩
        have hna0 : 0 < na := by
          have h1 : 0 < (aw : Int) * (ah : Int) := Int.mul_pos (by omega) (by omega)
          have := hna.out
          omega
        have hnb0 : 0 < nb := by
          have h1 : 0 < (bw : Int) * (bh : Int) := Int.mul_pos (by omega) (by omega)
          have := hnb.out
          omega
        have p1 : aw = 1 ∨ aw = 3 ∨ aw = 5 := by omega
        have p2 : ah = 1 ∨ ah = 3 ∨ ah = 5 := by omega
        have p3 : bw = 1 ∨ bw = 3 ∨ bw = 5 := by omega
        have p4 : bh = 1 ∨ bh = 3 ∨ bh = 5 := by omega
        have q1 : aw + bw - 1 ≤ 5 := by omega
        have q2 : ah + bh - 1 ≤ 5 := by omega
        have hSK := Lib.hid (compS_ok (A := A) (B := B) (by rw [hka.out, hkb.out]; rfl) (by omega) (by omega) q1 q2)
        have hSL := Lib.hid ((compS_ok (A := B) (B := A) (aw := bw) (ah := bh) (bw := aw) (bh := ah) (by rw [hka.out, hkb.out]; rfl) (by omega) (by omega) (by omega) (by omega)).trans (by
          rw [compL_comm (by omega) (by omega) (by omega) (by omega), Nat.add_comm bw aw, Nat.add_comm bh ah] : _ = ImR.mk ((aw + bw - 1 : Nat) : Int) ((ah + bh - 1 : Nat) : Int) (compL aw ah bw bh A B) 0))
        have hkK := Lib.hid (kernOk_comp (A := A) (B := B) p1 p2 p3 p4 q1 q2)
        have hcomp := Lib.hid (fun (pw ph : Nat) (xs : List Int) (hpw : 0 < pw) (hph : 0 < ph) (hx : allIn (-1000) 1000 xs = true) (hA : allIn (-50) 50 A = true) (hB : allIn (-50) 50 B = true) => conv_composed hpw hph p1 p2 p3 p4 q1 q2 hx hA hB)
        obtain ⟨nk, hnk⟩ : ∃ nk, (aw + bw - 1) * (ah + bh - 1) = nk := ⟨_, rfl⟩
        have hnk25 : nk ≤ 25 := by rw [← hnk]; exact Nat.mul_le_mul q1 q2
        have hlK := Lib.hid (show (compL aw ah bw bh A B).length = nk from compL_len.trans hnk)
        clear hk1 hk2 hnk s1 s2 s3 t1 t2 t3 hsz
        generalize compL aw ah bw bh A B = K at *
        generalize aw + bw - 1 = kw at *
        generalize ah + bh - 1 = kh at *
        clear p1 p2 p3 p4
        cases zv with
        | false =>
          have hB : Below w.heap.size w (((w.alloc (.cells #[.int .i64 iw, .int .i64 ih, .slice a n c] 24)).alloc (.cells #[.int .i64 aw, .int .i64 ah, .slice ax na ca] 64)).alloc (.cells #[.int .i64 bw, .int .i64 bh, .slice bx nb cb] 64)) := below_al (below_al (below_al (Below.refl _ _) _) _) _
          have km := (((Blk.new w 24 #[.int .i64 iw, .int .i64 ih, .slice a n c]).alloc (.cells #[.int .i64 aw, .int .i64 ah, .slice ax na ca] 64)).alloc (.cells #[.int .i64 bw, .int .i64 bh, .slice bx nb cb] 64))
          have ka := ((Blk.new (w.alloc (.cells #[.int .i64 iw, .int .i64 ih, .slice a n c] 24)) 64 #[.int .i64 aw, .int .i64 ah, .slice ax na ca]).alloc (.cells #[.int .i64 bw, .int .i64 bh, .slice bx nb cb] 64))
          have kb := (Blk.new ((w.alloc (.cells #[.int .i64 iw, .int .i64 ih, .slice a n c] 24)).alloc (.cells #[.int .i64 aw, .int .i64 ah, .slice ax na ca] 64)) 64 #[.int .i64 bw, .int .i64 bh, .slice bx nb cb])
          simp only [World.size_alloc] at ka kb
          obtain ⟨W0, hW⟩ : ∃ W, (((w.alloc (.cells #[.int .i64 iw, .int .i64 ih, .slice a n c] 24)).alloc (.cells #[.int .i64 aw, .int .i64 ah, .slice ax na ca] 64)).alloc (.cells #[.int .i64 bw, .int .i64 bh, .slice bx nb cb] 64)) = W := ⟨_, rfl⟩
          rw [hW] at hB km ka kb
          have m0 := km.cell (i := 0) rfl
          have m1 := km.cell (i := 1) rfl
          have m2 := km.cell (i := 2) rfl
          have s0 := ka.cell (i := 0) rfl
          have s1 := ka.cell (i := 1) rfl
          have s2 := ka.cell (i := 2) rfl
          have t0 := kb.cell (i := 0) rfl
          have t1 := kb.cell (i := 1) rfl
          have t2 := kb.cell (i := 2) rfl
          go_enter Try.func17, Try.ntmps17
          go_wp2_with fail
          clear hW
          refine (alive_any _).mono ?_
          rintro e V1 ⟨rfl, hb⟩
          clear m0 m1 m2 s0 s1 s2 t0 t1 t2
          replace km := km.below hb km.lt
          replace ka := ka.below hb ka.lt
          replace kb := kb.below hb kb.lt
          replace hB := hB.trans (hb.mono hB.size)
          have m0 := km.cell (i := 0) rfl
          have m1 := km.cell (i := 1) rfl
          have m2 := km.cell (i := 2) rfl
          have s0 := ka.cell (i := 0) rfl
          have s1 := ka.cell (i := 1) rfl
          have s2 := ka.cell (i := 2) rfl
          have t0 := kb.cell (i := 0) rfl
          have t1 := kb.cell (i := 1) rfl
          have t2 := kb.cell (i := 2) rfl
          clear hb
          go_wp2_with fail
          have hcall := Compose_any aw ah ax ca na A hna bw bh bx cb nb B hnb _ (by omega) ((hra.below (Nat.le_refl _) hB).mono hB.size) (by omega) ((hrb.below (Nat.le_refl _) hB).mono hB.size)
          rw [hSK.out] at hcall
          refine hcall.mono ?_
          clear hcall
          rintro e V2 ⟨⟨v, hev, sl, hvl, hrow⟩, hb⟩
          have rK : V2.ownsRow w.heap.size 3 1 sl nk ((K).map (Value.int .i64)) := row_base (row_len (k := (K).length) hlK.out hrow) hB.size
          obtain ⟨srKa, srKc, rfl⟩ := row_slice rK
          have he : e = .returned (.tuple #[.agg #[.int .i64 kw, .int .i64 kh, .slice srKa nk srKc], .int .i64 0]) := by rw [hev, hvl]
          subst he
          clear hrow hev hvl
          clear m0 m1 m2 s0 s1 s2 t0 t1 t2
          replace km := km.below hb km.lt
          replace ka := ka.below hb ka.lt
          replace kb := kb.below hb kb.lt
          replace hB := hB.trans (hb.mono hB.size)
          have m0 := km.cell (i := 0) rfl
          have m1 := km.cell (i := 1) rfl
          have m2 := km.cell (i := 2) rfl
          have s0 := ka.cell (i := 0) rfl
          have s1 := ka.cell (i := 1) rfl
          have s2 := ka.cell (i := 2) rfl
          have t0 := kb.cell (i := 0) rfl
          have t1 := kb.cell (i := 1) rfl
          have t2 := kb.cell (i := 2) rfl
          clear hb
          obtain ⟨V3, hW⟩ : ∃ V3, V2.alloc (.cells #[.int .i64 kw, .int .i64 kh, .slice srKa nk srKc] 64) = V3 := ⟨_, rfl⟩
          obtain ⟨bkK, hbx⟩ : ∃ bkK, V2.heap.size = bkK := ⟨_, rfl⟩
          have kK := Blk.new V2 64 #[.int .i64 kw, .int .i64 kh, .slice srKa nk srKc]
          rw [hW, hbx] at kK
          have hb : Below V2.heap.size V2 V3 := alloc_below hW
          have km' := km.below hb km.lt
          have lkmkK := km.lt
          rw [hbx] at lkmkK
          have ka' := ka.below hb ka.lt
          have lkakK := ka.lt
          rw [hbx] at lkakK
          have kb' := kb.below hb kb.lt
          have lkbkK := kb.lt
          rw [hbx] at lkbkK
          have m0' := km'.cell (i := 0) rfl
          have m1' := km'.cell (i := 1) rfl
          have m2' := km'.cell (i := 2) rfl
          have s0' := ka'.cell (i := 0) rfl
          have s1' := ka'.cell (i := 1) rfl
          have s2' := ka'.cell (i := 2) rfl
          have t0' := kb'.cell (i := 0) rfl
          have t1' := kb'.cell (i := 1) rfl
          have t2' := kb'.cell (i := 2) rfl
          have xk0 := kK.cell (i := 0) rfl
          have xk1 := kK.cell (i := 1) rfl
          have xk2 := kK.cell (i := 2) rfl
          have fxk0 := kK.frozen 0
          have fxk1 := kK.frozen 1
          have fxk2 := kK.frozen 2
          go_wp2_with fail
          clear hW
          clear hbx
          clear m0 m1 m2 s0 s1 s2 t0 t1 t2
          clear m0' m1' m2' s0' s1' s2' t0' t1' t2'
          replace km := km'
          clear km'
          replace ka := ka'
          clear ka'
          replace kb := kb'
          clear kb'
          have m0 := km.cell (i := 0) rfl
          have m1 := km.cell (i := 1) rfl
          have m2 := km.cell (i := 2) rfl
          have s0 := ka.cell (i := 0) rfl
          have s1 := ka.cell (i := 1) rfl
          have s2 := ka.cell (i := 2) rfl
          have t0 := kb.cell (i := 0) rfl
          have t1 := kb.cell (i := 1) rfl
          have t2 := kb.cell (i := 2) rfl
          replace rK := row_below rK hb
          replace hB := hB.trans (hb.mono hB.size)
          clear hb
          have hcall := Compose_any bw bh bx cb nb B hnb aw ah ax ca na A hna _ (by omega) ((hrb.below (Nat.le_refl _) hB).mono hB.size) (by omega) ((hra.below (Nat.le_refl _) hB).mono hB.size)
          rw [hSL.out] at hcall
          refine hcall.mono ?_
          clear hcall
          rintro e V4 ⟨⟨v, hev, sl, hvl, hrow⟩, hb⟩
          have rL : V4.ownsRow w.heap.size 3 1 sl nk ((K).map (Value.int .i64)) := row_base (row_len (k := (K).length) hlK.out hrow) hB.size
          obtain ⟨srLa, srLc, rfl⟩ := row_slice rL
          have he : e = .returned (.tuple #[.agg #[.int .i64 kw, .int .i64 kh, .slice srLa nk srLc], .int .i64 0]) := by rw [hev, hvl]
          subst he
          clear hrow hev hvl
          clear m0 m1 m2 s0 s1 s2 t0 t1 t2 xk0 xk1 xk2 fxk0 fxk1 fxk2
          replace km := km.below hb km.lt
          replace ka := ka.below hb ka.lt
          replace kb := kb.below hb kb.lt
          replace kK := kK.below hb kK.lt
          replace rK := row_below rK hb
          replace hB := hB.trans (hb.mono hB.size)
          have m0 := km.cell (i := 0) rfl
          have m1 := km.cell (i := 1) rfl
          have m2 := km.cell (i := 2) rfl
          have s0 := ka.cell (i := 0) rfl
          have s1 := ka.cell (i := 1) rfl
          have s2 := ka.cell (i := 2) rfl
          have t0 := kb.cell (i := 0) rfl
          have t1 := kb.cell (i := 1) rfl
          have t2 := kb.cell (i := 2) rfl
          have xk0 := kK.cell (i := 0) rfl
          have xk1 := kK.cell (i := 1) rfl
          have xk2 := kK.cell (i := 2) rfl
          have fxk0 := kK.frozen 0
          have fxk1 := kK.frozen 1
          have fxk2 := kK.frozen 2
          clear hb
          obtain ⟨V5, hW⟩ : ∃ V5, V4.alloc (.cells #[.int .i64 kw, .int .i64 kh, .slice srLa nk srLc] 64) = V5 := ⟨_, rfl⟩
          obtain ⟨bkL, hbx⟩ : ∃ bkL, V4.heap.size = bkL := ⟨_, rfl⟩
          have kL := Blk.new V4 64 #[.int .i64 kw, .int .i64 kh, .slice srLa nk srLc]
          rw [hW, hbx] at kL
          have hb : Below V4.heap.size V4 V5 := alloc_below hW
          have km' := km.below hb km.lt
          have lkmkL := km.lt
          rw [hbx] at lkmkL
          have ka' := ka.below hb ka.lt
          have lkakL := ka.lt
          rw [hbx] at lkakL
          have kb' := kb.below hb kb.lt
          have lkbkL := kb.lt
          rw [hbx] at lkbkL
          have kK' := kK.below hb kK.lt
          have lkKkL := kK.lt
          rw [hbx] at lkKkL
          have m0' := km'.cell (i := 0) rfl
          have m1' := km'.cell (i := 1) rfl
          have m2' := km'.cell (i := 2) rfl
          have s0' := ka'.cell (i := 0) rfl
          have s1' := ka'.cell (i := 1) rfl
          have s2' := ka'.cell (i := 2) rfl
          have t0' := kb'.cell (i := 0) rfl
          have t1' := kb'.cell (i := 1) rfl
          have t2' := kb'.cell (i := 2) rfl
          have xk0' := kK'.cell (i := 0) rfl
          have xk1' := kK'.cell (i := 1) rfl
          have xk2' := kK'.cell (i := 2) rfl
          have fxk0' := kK'.frozen 0
          have fxk1' := kK'.frozen 1
          have fxk2' := kK'.frozen 2
          have xl0 := kL.cell (i := 0) rfl
          have xl1 := kL.cell (i := 1) rfl
          have xl2 := kL.cell (i := 2) rfl
          have fxl0 := kL.frozen 0
          have fxl1 := kL.frozen 1
          have fxl2 := kL.frozen 2
          go_wp2_with fail
          clear hW
          clear hbx
          clear m0 m1 m2 s0 s1 s2 t0 t1 t2 xk0 xk1 xk2 fxk0 fxk1 fxk2
          clear m0' m1' m2' s0' s1' s2' t0' t1' t2' xk0' xk1' xk2' fxk0' fxk1' fxk2'
          replace km := km'
          clear km'
          replace ka := ka'
          clear ka'
          replace kb := kb'
          clear kb'
          replace kK := kK'
          clear kK'
          have m0 := km.cell (i := 0) rfl
          have m1 := km.cell (i := 1) rfl
          have m2 := km.cell (i := 2) rfl
          have s0 := ka.cell (i := 0) rfl
          have s1 := ka.cell (i := 1) rfl
          have s2 := ka.cell (i := 2) rfl
          have t0 := kb.cell (i := 0) rfl
          have t1 := kb.cell (i := 1) rfl
          have t2 := kb.cell (i := 2) rfl
          have xk0 := kK.cell (i := 0) rfl
          have xk1 := kK.cell (i := 1) rfl
          have xk2 := kK.cell (i := 2) rfl
          have fxk0 := kK.frozen 0
          have fxk1 := kK.frozen 1
          have fxk2 := kK.frozen 2
          replace rK := row_below rK hb
          replace rL := row_below rL hb
          replace hB := hB.trans (hb.mono hB.size)
          clear hb
          refine (ValidKernel_any aw ah ax ca na A hna _ hka _ (by omega) ((hra.below (Nat.le_refl _) hB).mono hB.size)).mono ?_
          rintro e V6 ⟨rfl, hb⟩
          clear m0 m1 m2 s0 s1 s2 t0 t1 t2 xk0 xk1 xk2 fxk0 fxk1 fxk2 xl0 xl1 xl2 fxl0 fxl1 fxl2
          replace km := km.below hb km.lt
          replace ka := ka.below hb ka.lt
          replace kb := kb.below hb kb.lt
          replace kK := kK.below hb kK.lt
          replace kL := kL.below hb kL.lt
          replace rK := row_below rK hb
          replace rL := row_below rL hb
          replace hB := hB.trans (hb.mono hB.size)
          have m0 := km.cell (i := 0) rfl
          have m1 := km.cell (i := 1) rfl
          have m2 := km.cell (i := 2) rfl
          have s0 := ka.cell (i := 0) rfl
          have s1 := ka.cell (i := 1) rfl
          have s2 := ka.cell (i := 2) rfl
          have t0 := kb.cell (i := 0) rfl
          have t1 := kb.cell (i := 1) rfl
          have t2 := kb.cell (i := 2) rfl
          have xk0 := kK.cell (i := 0) rfl
          have xk1 := kK.cell (i := 1) rfl
          have xk2 := kK.cell (i := 2) rfl
          have fxk0 := kK.frozen 0
          have fxk1 := kK.frozen 1
          have fxk2 := kK.frozen 2
          have xl0 := kL.cell (i := 0) rfl
          have xl1 := kL.cell (i := 1) rfl
          have xl2 := kL.cell (i := 2) rfl
          have fxl0 := kL.frozen 0
          have fxl1 := kL.frozen 1
          have fxl2 := kL.frozen 2
          clear hb
          go_wp2_with fail
          refine (ValidKernel_any bw bh bx cb nb B hnb _ hkb _ (by omega) ((hrb.below (Nat.le_refl _) hB).mono hB.size)).mono ?_
          rintro e V7 ⟨rfl, hb⟩
          clear m0 m1 m2 s0 s1 s2 t0 t1 t2 xk0 xk1 xk2 fxk0 fxk1 fxk2 xl0 xl1 xl2 fxl0 fxl1 fxl2
          replace km := km.below hb km.lt
          replace ka := ka.below hb ka.lt
          replace kb := kb.below hb kb.lt
          replace kK := kK.below hb kK.lt
          replace kL := kL.below hb kL.lt
          replace rK := row_below rK hb
          replace rL := row_below rL hb
          replace hB := hB.trans (hb.mono hB.size)
          have m0 := km.cell (i := 0) rfl
          have m1 := km.cell (i := 1) rfl
          have m2 := km.cell (i := 2) rfl
          have s0 := ka.cell (i := 0) rfl
          have s1 := ka.cell (i := 1) rfl
          have s2 := ka.cell (i := 2) rfl
          have t0 := kb.cell (i := 0) rfl
          have t1 := kb.cell (i := 1) rfl
          have t2 := kb.cell (i := 2) rfl
          have xk0 := kK.cell (i := 0) rfl
          have xk1 := kK.cell (i := 1) rfl
          have xk2 := kK.cell (i := 2) rfl
          have fxk0 := kK.frozen 0
          have fxk1 := kK.frozen 1
          have fxk2 := kK.frozen 2
          have xl0 := kL.cell (i := 0) rfl
          have xl1 := kL.cell (i := 1) rfl
          have xl2 := kL.cell (i := 2) rfl
          have fxl0 := kL.frozen 0
          have fxl1 := kL.frozen 1
          have fxl2 := kL.frozen 2
          clear hb
          go_wp2_with fail
          refine (SameInts_eq srKa srLa srKc srLc nk K hlK _ (by omega) (row_rd' hlK.out rK) (row_rd' hlK.out rL)).mono ?_
          rintro e V8 ⟨rfl, hb⟩
          clear m0 m1 m2 s0 s1 s2 t0 t1 t2 xk0 xk1 xk2 fxk0 fxk1 fxk2 xl0 xl1 xl2 fxl0 fxl1 fxl2
          replace km := km.below hb km.lt
          replace ka := ka.below hb ka.lt
          replace kb := kb.below hb kb.lt
          replace kK := kK.below hb kK.lt
          replace kL := kL.below hb kL.lt
          replace rK := row_below rK hb
          replace rL := row_below rL hb
          replace hB := hB.trans (hb.mono hB.size)
          have m0 := km.cell (i := 0) rfl
          have m1 := km.cell (i := 1) rfl
          have m2 := km.cell (i := 2) rfl
          have s0 := ka.cell (i := 0) rfl
          have s1 := ka.cell (i := 1) rfl
          have s2 := ka.cell (i := 2) rfl
          have t0 := kb.cell (i := 0) rfl
          have t1 := kb.cell (i := 1) rfl
          have t2 := kb.cell (i := 2) rfl
          have xk0 := kK.cell (i := 0) rfl
          have xk1 := kK.cell (i := 1) rfl
          have xk2 := kK.cell (i := 2) rfl
          have fxk0 := kK.frozen 0
          have fxk1 := kK.frozen 1
          have fxk2 := kK.frozen 2
          have xl0 := kL.cell (i := 0) rfl
          have xl1 := kL.cell (i := 1) rfl
          have xl2 := kL.cell (i := 2) rfl
          have fxl0 := kL.frozen 0
          have fxl1 := kL.frozen 1
          have fxl2 := kL.frozen 2
          clear hb
          go_wp2_with fail
          refine (Valid_any iw ih a c xs n hn _ (by omega) ((hr.below (Nat.le_refl _) hB).mono hB.size)).mono ?_
          rintro e V28 ⟨rfl, hb⟩
          rw [hzv.out]
          clear m0 m1 m2 s0 s1 s2 t0 t1 t2 xk0 xk1 xk2 fxk0 fxk1 fxk2 xl0 xl1 xl2 fxl0 fxl1 fxl2
          replace km := km.below hb km.lt
          replace ka := ka.below hb ka.lt
          replace kb := kb.below hb kb.lt
          replace kK := kK.below hb kK.lt
          replace kL := kL.below hb kL.lt
          replace rK := row_below rK hb
          replace rL := row_below rL hb
          replace hB := hB.trans (hb.mono hB.size)
          have m0 := km.cell (i := 0) rfl
          have m1 := km.cell (i := 1) rfl
          have m2 := km.cell (i := 2) rfl
          have s0 := ka.cell (i := 0) rfl
          have s1 := ka.cell (i := 1) rfl
          have s2 := ka.cell (i := 2) rfl
          have t0 := kb.cell (i := 0) rfl
          have t1 := kb.cell (i := 1) rfl
          have t2 := kb.cell (i := 2) rfl
          have xk0 := kK.cell (i := 0) rfl
          have xk1 := kK.cell (i := 1) rfl
          have xk2 := kK.cell (i := 2) rfl
          have fxk0 := kK.frozen 0
          have fxk1 := kK.frozen 1
          have fxk2 := kK.frozen 2
          have xl0 := kL.cell (i := 0) rfl
          have xl1 := kL.cell (i := 1) rfl
          have xl2 := kL.cell (i := 2) rfl
          have fxl0 := kL.frozen 0
          have fxl1 := kL.frozen 1
          have fxl2 := kL.frozen 2
          clear hb
          go_wp2_with fail
          go_ret
          exact ⟨rfl, hB⟩
        | true =>
          obtain ⟨⟨i1, i2⟩, ⟨i3, i4⟩, hl1, ha1⟩ := vld_true hzv.out
          obtain ⟨pw, rfl⟩ : ∃ pw : Nat, iw = (pw : Int) := ⟨iw.toNat, by omega⟩
          obtain ⟨ph, rfl⟩ : ∃ ph : Nat, ih = (ph : Int) := ⟨ih.toNat, by omega⟩
          have hN : pw * ph = n := by
            have h2 : ((pw * ph : Nat) : Int) = (pw : Int) * ph := by simp
            have := hn.out
            omega
          have hn0 : 0 < n := by rw [← hN]; exact Nat.mul_pos (by omega) (by omega)
          have i1' : 1 ≤ pw := by omega
          have i2' : pw ≤ 16 := by omega
          have i3' : 1 ≤ ph := by omega
          have i4' : ph ≤ 16 := by omega
          clear hl1 ha1
          obtain ⟨vmo, h0mo⟩ : ∃ v, allIn (-1000) 1000 xs = v := ⟨_, rfl⟩
          have hmo := Lib.hid h0mo
          clear h0mo
          cases vmo with
          | false =>
            have hB : Below w.heap.size w (((w.alloc (.cells #[.int .i64 pw, .int .i64 ph, .slice a n c] 24)).alloc (.cells #[.int .i64 aw, .int .i64 ah, .slice ax na ca] 64)).alloc (.cells #[.int .i64 bw, .int .i64 bh, .slice bx nb cb] 64)) := below_al (below_al (below_al (Below.refl _ _) _) _) _
            have km := (((Blk.new w 24 #[.int .i64 pw, .int .i64 ph, .slice a n c]).alloc (.cells #[.int .i64 aw, .int .i64 ah, .slice ax na ca] 64)).alloc (.cells #[.int .i64 bw, .int .i64 bh, .slice bx nb cb] 64))
            have ka := ((Blk.new (w.alloc (.cells #[.int .i64 pw, .int .i64 ph, .slice a n c] 24)) 64 #[.int .i64 aw, .int .i64 ah, .slice ax na ca]).alloc (.cells #[.int .i64 bw, .int .i64 bh, .slice bx nb cb] 64))
            have kb := (Blk.new ((w.alloc (.cells #[.int .i64 pw, .int .i64 ph, .slice a n c] 24)).alloc (.cells #[.int .i64 aw, .int .i64 ah, .slice ax na ca] 64)) 64 #[.int .i64 bw, .int .i64 bh, .slice bx nb cb])
            simp only [World.size_alloc] at ka kb
            obtain ⟨W0, hW⟩ : ∃ W, (((w.alloc (.cells #[.int .i64 pw, .int .i64 ph, .slice a n c] 24)).alloc (.cells #[.int .i64 aw, .int .i64 ah, .slice ax na ca] 64)).alloc (.cells #[.int .i64 bw, .int .i64 bh, .slice bx nb cb] 64)) = W := ⟨_, rfl⟩
            rw [hW] at hB km ka kb
            have m0 := km.cell (i := 0) rfl
            have m1 := km.cell (i := 1) rfl
            have m2 := km.cell (i := 2) rfl
            have s0 := ka.cell (i := 0) rfl
            have s1 := ka.cell (i := 1) rfl
            have s2 := ka.cell (i := 2) rfl
            have t0 := kb.cell (i := 0) rfl
            have t1 := kb.cell (i := 1) rfl
            have t2 := kb.cell (i := 2) rfl
            go_enter Try.func17, Try.ntmps17
            go_wp2_with fail
            clear hW
            refine (alive_any _).mono ?_
            rintro e V1 ⟨rfl, hb⟩
            clear m0 m1 m2 s0 s1 s2 t0 t1 t2
            replace km := km.below hb km.lt
            replace ka := ka.below hb ka.lt
            replace kb := kb.below hb kb.lt
            replace hB := hB.trans (hb.mono hB.size)
            have m0 := km.cell (i := 0) rfl
            have m1 := km.cell (i := 1) rfl
            have m2 := km.cell (i := 2) rfl
            have s0 := ka.cell (i := 0) rfl
            have s1 := ka.cell (i := 1) rfl
            have s2 := ka.cell (i := 2) rfl
            have t0 := kb.cell (i := 0) rfl
            have t1 := kb.cell (i := 1) rfl
            have t2 := kb.cell (i := 2) rfl
            clear hb
            go_wp2_with fail
            have hcall := Compose_any aw ah ax ca na A hna bw bh bx cb nb B hnb _ (by omega) ((hra.below (Nat.le_refl _) hB).mono hB.size) (by omega) ((hrb.below (Nat.le_refl _) hB).mono hB.size)
            rw [hSK.out] at hcall
            refine hcall.mono ?_
            clear hcall
            rintro e V2 ⟨⟨v, hev, sl, hvl, hrow⟩, hb⟩
            have rK : V2.ownsRow w.heap.size 3 1 sl nk ((K).map (Value.int .i64)) := row_base (row_len (k := (K).length) hlK.out hrow) hB.size
            obtain ⟨srKa, srKc, rfl⟩ := row_slice rK
            have he : e = .returned (.tuple #[.agg #[.int .i64 kw, .int .i64 kh, .slice srKa nk srKc], .int .i64 0]) := by rw [hev, hvl]
            subst he
            clear hrow hev hvl
            clear m0 m1 m2 s0 s1 s2 t0 t1 t2
            replace km := km.below hb km.lt
            replace ka := ka.below hb ka.lt
            replace kb := kb.below hb kb.lt
            replace hB := hB.trans (hb.mono hB.size)
            have m0 := km.cell (i := 0) rfl
            have m1 := km.cell (i := 1) rfl
            have m2 := km.cell (i := 2) rfl
            have s0 := ka.cell (i := 0) rfl
            have s1 := ka.cell (i := 1) rfl
            have s2 := ka.cell (i := 2) rfl
            have t0 := kb.cell (i := 0) rfl
            have t1 := kb.cell (i := 1) rfl
            have t2 := kb.cell (i := 2) rfl
            clear hb
            obtain ⟨V3, hW⟩ : ∃ V3, V2.alloc (.cells #[.int .i64 kw, .int .i64 kh, .slice srKa nk srKc] 64) = V3 := ⟨_, rfl⟩
            obtain ⟨bkK, hbx⟩ : ∃ bkK, V2.heap.size = bkK := ⟨_, rfl⟩
            have kK := Blk.new V2 64 #[.int .i64 kw, .int .i64 kh, .slice srKa nk srKc]
            rw [hW, hbx] at kK
            have hb : Below V2.heap.size V2 V3 := alloc_below hW
            have km' := km.below hb km.lt
            have lkmkK := km.lt
            rw [hbx] at lkmkK
            have ka' := ka.below hb ka.lt
            have lkakK := ka.lt
            rw [hbx] at lkakK
            have kb' := kb.below hb kb.lt
            have lkbkK := kb.lt
            rw [hbx] at lkbkK
            have m0' := km'.cell (i := 0) rfl
            have m1' := km'.cell (i := 1) rfl
            have m2' := km'.cell (i := 2) rfl
            have s0' := ka'.cell (i := 0) rfl
            have s1' := ka'.cell (i := 1) rfl
            have s2' := ka'.cell (i := 2) rfl
            have t0' := kb'.cell (i := 0) rfl
            have t1' := kb'.cell (i := 1) rfl
            have t2' := kb'.cell (i := 2) rfl
            have xk0 := kK.cell (i := 0) rfl
            have xk1 := kK.cell (i := 1) rfl
            have xk2 := kK.cell (i := 2) rfl
            have fxk0 := kK.frozen 0
            have fxk1 := kK.frozen 1
            have fxk2 := kK.frozen 2
            go_wp2_with fail
            clear hW
            clear hbx
            clear m0 m1 m2 s0 s1 s2 t0 t1 t2
            clear m0' m1' m2' s0' s1' s2' t0' t1' t2'
            replace km := km'
            clear km'
            replace ka := ka'
            clear ka'
            replace kb := kb'
            clear kb'
            have m0 := km.cell (i := 0) rfl
            have m1 := km.cell (i := 1) rfl
            have m2 := km.cell (i := 2) rfl
            have s0 := ka.cell (i := 0) rfl
            have s1 := ka.cell (i := 1) rfl
            have s2 := ka.cell (i := 2) rfl
            have t0 := kb.cell (i := 0) rfl
            have t1 := kb.cell (i := 1) rfl
            have t2 := kb.cell (i := 2) rfl
            replace rK := row_below rK hb
            replace hB := hB.trans (hb.mono hB.size)
            clear hb
            have hcall := Compose_any bw bh bx cb nb B hnb aw ah ax ca na A hna _ (by omega) ((hrb.below (Nat.le_refl _) hB).mono hB.size) (by omega) ((hra.below (Nat.le_refl _) hB).mono hB.size)
            rw [hSL.out] at hcall
            refine hcall.mono ?_
            clear hcall
            rintro e V4 ⟨⟨v, hev, sl, hvl, hrow⟩, hb⟩
            have rL : V4.ownsRow w.heap.size 3 1 sl nk ((K).map (Value.int .i64)) := row_base (row_len (k := (K).length) hlK.out hrow) hB.size
            obtain ⟨srLa, srLc, rfl⟩ := row_slice rL
            have he : e = .returned (.tuple #[.agg #[.int .i64 kw, .int .i64 kh, .slice srLa nk srLc], .int .i64 0]) := by rw [hev, hvl]
            subst he
            clear hrow hev hvl
            clear m0 m1 m2 s0 s1 s2 t0 t1 t2 xk0 xk1 xk2 fxk0 fxk1 fxk2
            replace km := km.below hb km.lt
            replace ka := ka.below hb ka.lt
            replace kb := kb.below hb kb.lt
            replace kK := kK.below hb kK.lt
            replace rK := row_below rK hb
            replace hB := hB.trans (hb.mono hB.size)
            have m0 := km.cell (i := 0) rfl
            have m1 := km.cell (i := 1) rfl
            have m2 := km.cell (i := 2) rfl
            have s0 := ka.cell (i := 0) rfl
            have s1 := ka.cell (i := 1) rfl
            have s2 := ka.cell (i := 2) rfl
            have t0 := kb.cell (i := 0) rfl
            have t1 := kb.cell (i := 1) rfl
            have t2 := kb.cell (i := 2) rfl
            have xk0 := kK.cell (i := 0) rfl
            have xk1 := kK.cell (i := 1) rfl
            have xk2 := kK.cell (i := 2) rfl
            have fxk0 := kK.frozen 0
            have fxk1 := kK.frozen 1
            have fxk2 := kK.frozen 2
            clear hb
            obtain ⟨V5, hW⟩ : ∃ V5, V4.alloc (.cells #[.int .i64 kw, .int .i64 kh, .slice srLa nk srLc] 64) = V5 := ⟨_, rfl⟩
            obtain ⟨bkL, hbx⟩ : ∃ bkL, V4.heap.size = bkL := ⟨_, rfl⟩
            have kL := Blk.new V4 64 #[.int .i64 kw, .int .i64 kh, .slice srLa nk srLc]
            rw [hW, hbx] at kL
            have hb : Below V4.heap.size V4 V5 := alloc_below hW
            have km' := km.below hb km.lt
            have lkmkL := km.lt
            rw [hbx] at lkmkL
            have ka' := ka.below hb ka.lt
            have lkakL := ka.lt
            rw [hbx] at lkakL
            have kb' := kb.below hb kb.lt
            have lkbkL := kb.lt
            rw [hbx] at lkbkL
            have kK' := kK.below hb kK.lt
            have lkKkL := kK.lt
            rw [hbx] at lkKkL
            have m0' := km'.cell (i := 0) rfl
            have m1' := km'.cell (i := 1) rfl
            have m2' := km'.cell (i := 2) rfl
            have s0' := ka'.cell (i := 0) rfl
            have s1' := ka'.cell (i := 1) rfl
            have s2' := ka'.cell (i := 2) rfl
            have t0' := kb'.cell (i := 0) rfl
            have t1' := kb'.cell (i := 1) rfl
            have t2' := kb'.cell (i := 2) rfl
            have xk0' := kK'.cell (i := 0) rfl
            have xk1' := kK'.cell (i := 1) rfl
            have xk2' := kK'.cell (i := 2) rfl
            have fxk0' := kK'.frozen 0
            have fxk1' := kK'.frozen 1
            have fxk2' := kK'.frozen 2
            have xl0 := kL.cell (i := 0) rfl
            have xl1 := kL.cell (i := 1) rfl
            have xl2 := kL.cell (i := 2) rfl
            have fxl0 := kL.frozen 0
            have fxl1 := kL.frozen 1
            have fxl2 := kL.frozen 2
            go_wp2_with fail
            clear hW
            clear hbx
            clear m0 m1 m2 s0 s1 s2 t0 t1 t2 xk0 xk1 xk2 fxk0 fxk1 fxk2
            clear m0' m1' m2' s0' s1' s2' t0' t1' t2' xk0' xk1' xk2' fxk0' fxk1' fxk2'
            replace km := km'
            clear km'
            replace ka := ka'
            clear ka'
            replace kb := kb'
            clear kb'
            replace kK := kK'
            clear kK'
            have m0 := km.cell (i := 0) rfl
            have m1 := km.cell (i := 1) rfl
            have m2 := km.cell (i := 2) rfl
            have s0 := ka.cell (i := 0) rfl
            have s1 := ka.cell (i := 1) rfl
            have s2 := ka.cell (i := 2) rfl
            have t0 := kb.cell (i := 0) rfl
            have t1 := kb.cell (i := 1) rfl
            have t2 := kb.cell (i := 2) rfl
            have xk0 := kK.cell (i := 0) rfl
            have xk1 := kK.cell (i := 1) rfl
            have xk2 := kK.cell (i := 2) rfl
            have fxk0 := kK.frozen 0
            have fxk1 := kK.frozen 1
            have fxk2 := kK.frozen 2
            replace rK := row_below rK hb
            replace rL := row_below rL hb
            replace hB := hB.trans (hb.mono hB.size)
            clear hb
            refine (ValidKernel_any aw ah ax ca na A hna _ hka _ (by omega) ((hra.below (Nat.le_refl _) hB).mono hB.size)).mono ?_
            rintro e V6 ⟨rfl, hb⟩
            clear m0 m1 m2 s0 s1 s2 t0 t1 t2 xk0 xk1 xk2 fxk0 fxk1 fxk2 xl0 xl1 xl2 fxl0 fxl1 fxl2
            replace km := km.below hb km.lt
            replace ka := ka.below hb ka.lt
            replace kb := kb.below hb kb.lt
            replace kK := kK.below hb kK.lt
            replace kL := kL.below hb kL.lt
            replace rK := row_below rK hb
            replace rL := row_below rL hb
            replace hB := hB.trans (hb.mono hB.size)
            have m0 := km.cell (i := 0) rfl
            have m1 := km.cell (i := 1) rfl
            have m2 := km.cell (i := 2) rfl
            have s0 := ka.cell (i := 0) rfl
            have s1 := ka.cell (i := 1) rfl
            have s2 := ka.cell (i := 2) rfl
            have t0 := kb.cell (i := 0) rfl
            have t1 := kb.cell (i := 1) rfl
            have t2 := kb.cell (i := 2) rfl
            have xk0 := kK.cell (i := 0) rfl
            have xk1 := kK.cell (i := 1) rfl
            have xk2 := kK.cell (i := 2) rfl
            have fxk0 := kK.frozen 0
            have fxk1 := kK.frozen 1
            have fxk2 := kK.frozen 2
            have xl0 := kL.cell (i := 0) rfl
            have xl1 := kL.cell (i := 1) rfl
            have xl2 := kL.cell (i := 2) rfl
            have fxl0 := kL.frozen 0
            have fxl1 := kL.frozen 1
            have fxl2 := kL.frozen 2
            clear hb
            go_wp2_with fail
            refine (ValidKernel_any bw bh bx cb nb B hnb _ hkb _ (by omega) ((hrb.below (Nat.le_refl _) hB).mono hB.size)).mono ?_
            rintro e V7 ⟨rfl, hb⟩
            clear m0 m1 m2 s0 s1 s2 t0 t1 t2 xk0 xk1 xk2 fxk0 fxk1 fxk2 xl0 xl1 xl2 fxl0 fxl1 fxl2
            replace km := km.below hb km.lt
            replace ka := ka.below hb ka.lt
            replace kb := kb.below hb kb.lt
            replace kK := kK.below hb kK.lt
            replace kL := kL.below hb kL.lt
            replace rK := row_below rK hb
            replace rL := row_below rL hb
            replace hB := hB.trans (hb.mono hB.size)
            have m0 := km.cell (i := 0) rfl
            have m1 := km.cell (i := 1) rfl
            have m2 := km.cell (i := 2) rfl
            have s0 := ka.cell (i := 0) rfl
            have s1 := ka.cell (i := 1) rfl
            have s2 := ka.cell (i := 2) rfl
            have t0 := kb.cell (i := 0) rfl
            have t1 := kb.cell (i := 1) rfl
            have t2 := kb.cell (i := 2) rfl
            have xk0 := kK.cell (i := 0) rfl
            have xk1 := kK.cell (i := 1) rfl
            have xk2 := kK.cell (i := 2) rfl
            have fxk0 := kK.frozen 0
            have fxk1 := kK.frozen 1
            have fxk2 := kK.frozen 2
            have xl0 := kL.cell (i := 0) rfl
            have xl1 := kL.cell (i := 1) rfl
            have xl2 := kL.cell (i := 2) rfl
            have fxl0 := kL.frozen 0
            have fxl1 := kL.frozen 1
            have fxl2 := kL.frozen 2
            clear hb
            go_wp2_with fail
            refine (SameInts_eq srKa srLa srKc srLc nk K hlK _ (by omega) (row_rd' hlK.out rK) (row_rd' hlK.out rL)).mono ?_
            rintro e V8 ⟨rfl, hb⟩
            clear m0 m1 m2 s0 s1 s2 t0 t1 t2 xk0 xk1 xk2 fxk0 fxk1 fxk2 xl0 xl1 xl2 fxl0 fxl1 fxl2
            replace km := km.below hb km.lt
            replace ka := ka.below hb ka.lt
            replace kb := kb.below hb kb.lt
            replace kK := kK.below hb kK.lt
            replace kL := kL.below hb kL.lt
            replace rK := row_below rK hb
            replace rL := row_below rL hb
            replace hB := hB.trans (hb.mono hB.size)
            have m0 := km.cell (i := 0) rfl
            have m1 := km.cell (i := 1) rfl
            have m2 := km.cell (i := 2) rfl
            have s0 := ka.cell (i := 0) rfl
            have s1 := ka.cell (i := 1) rfl
            have s2 := ka.cell (i := 2) rfl
            have t0 := kb.cell (i := 0) rfl
            have t1 := kb.cell (i := 1) rfl
            have t2 := kb.cell (i := 2) rfl
            have xk0 := kK.cell (i := 0) rfl
            have xk1 := kK.cell (i := 1) rfl
            have xk2 := kK.cell (i := 2) rfl
            have fxk0 := kK.frozen 0
            have fxk1 := kK.frozen 1
            have fxk2 := kK.frozen 2
            have xl0 := kL.cell (i := 0) rfl
            have xl1 := kL.cell (i := 1) rfl
            have xl2 := kL.cell (i := 2) rfl
            have fxl0 := kL.frozen 0
            have fxl1 := kL.frozen 1
            have fxl2 := kL.frozen 2
            clear hb
            go_wp2_with fail
            refine (Valid_any pw ph a c xs n hn _ (by omega) ((hr.below (Nat.le_refl _) hB).mono hB.size)).mono ?_
            rintro e V28 ⟨rfl, hb⟩
            rw [hzv.out]
            clear m0 m1 m2 s0 s1 s2 t0 t1 t2 xk0 xk1 xk2 fxk0 fxk1 fxk2 xl0 xl1 xl2 fxl0 fxl1 fxl2
            replace km := km.below hb km.lt
            replace ka := ka.below hb ka.lt
            replace kb := kb.below hb kb.lt
            replace kK := kK.below hb kK.lt
            replace kL := kL.below hb kL.lt
            replace rK := row_below rK hb
            replace rL := row_below rL hb
            replace hB := hB.trans (hb.mono hB.size)
            have m0 := km.cell (i := 0) rfl
            have m1 := km.cell (i := 1) rfl
            have m2 := km.cell (i := 2) rfl
            have s0 := ka.cell (i := 0) rfl
            have s1 := ka.cell (i := 1) rfl
            have s2 := ka.cell (i := 2) rfl
            have t0 := kb.cell (i := 0) rfl
            have t1 := kb.cell (i := 1) rfl
            have t2 := kb.cell (i := 2) rfl
            have xk0 := kK.cell (i := 0) rfl
            have xk1 := kK.cell (i := 1) rfl
            have xk2 := kK.cell (i := 2) rfl
            have fxk0 := kK.frozen 0
            have fxk1 := kK.frozen 1
            have fxk2 := kK.frozen 2
            have xl0 := kL.cell (i := 0) rfl
            have xl1 := kL.cell (i := 1) rfl
            have xl2 := kL.cell (i := 2) rfl
            have fxl0 := kL.frozen 0
            have fxl1 := kL.frozen 1
            have fxl2 := kL.frozen 2
            clear hb
            go_wp2_with fail
            refine (modest_any pw ph a c n xs hn 1000 (by decide) (by decide) _ hmo hn0 _ (by omega) ((hr.below (Nat.le_refl _) hB).mono hB.size)).mono ?_
            rintro e V9 ⟨rfl, hb⟩
            clear m0 m1 m2 s0 s1 s2 t0 t1 t2 xk0 xk1 xk2 fxk0 fxk1 fxk2 xl0 xl1 xl2 fxl0 fxl1 fxl2
            replace km := km.below hb km.lt
            replace ka := ka.below hb ka.lt
            replace kb := kb.below hb kb.lt
            replace kK := kK.below hb kK.lt
            replace kL := kL.below hb kL.lt
            replace rK := row_below rK hb
            replace rL := row_below rL hb
            replace hB := hB.trans (hb.mono hB.size)
            have m0 := km.cell (i := 0) rfl
            have m1 := km.cell (i := 1) rfl
            have m2 := km.cell (i := 2) rfl
            have s0 := ka.cell (i := 0) rfl
            have s1 := ka.cell (i := 1) rfl
            have s2 := ka.cell (i := 2) rfl
            have t0 := kb.cell (i := 0) rfl
            have t1 := kb.cell (i := 1) rfl
            have t2 := kb.cell (i := 2) rfl
            have xk0 := kK.cell (i := 0) rfl
            have xk1 := kK.cell (i := 1) rfl
            have xk2 := kK.cell (i := 2) rfl
            have fxk0 := kK.frozen 0
            have fxk1 := kK.frozen 1
            have fxk2 := kK.frozen 2
            have xl0 := kL.cell (i := 0) rfl
            have xl1 := kL.cell (i := 1) rfl
            have xl2 := kL.cell (i := 2) rfl
            have fxl0 := kL.frozen 0
            have fxl1 := kL.frozen 1
            have fxl2 := kL.frozen 2
            clear hb
            go_wp2_with fail
            go_ret
            exact ⟨rfl, hB⟩
          | true =>
            obtain ⟨vsa, h0sa⟩ : ∃ v, allIn (-50) 50 A = v := ⟨_, rfl⟩
            have hsa := Lib.hid h0sa
            clear h0sa
            cases vsa with
            | false =>
              have hB : Below w.heap.size w (((w.alloc (.cells #[.int .i64 pw, .int .i64 ph, .slice a n c] 24)).alloc (.cells #[.int .i64 aw, .int .i64 ah, .slice ax na ca] 64)).alloc (.cells #[.int .i64 bw, .int .i64 bh, .slice bx nb cb] 64)) := below_al (below_al (below_al (Below.refl _ _) _) _) _
              have km := (((Blk.new w 24 #[.int .i64 pw, .int .i64 ph, .slice a n c]).alloc (.cells #[.int .i64 aw, .int .i64 ah, .slice ax na ca] 64)).alloc (.cells #[.int .i64 bw, .int .i64 bh, .slice bx nb cb] 64))
              have ka := ((Blk.new (w.alloc (.cells #[.int .i64 pw, .int .i64 ph, .slice a n c] 24)) 64 #[.int .i64 aw, .int .i64 ah, .slice ax na ca]).alloc (.cells #[.int .i64 bw, .int .i64 bh, .slice bx nb cb] 64))
              have kb := (Blk.new ((w.alloc (.cells #[.int .i64 pw, .int .i64 ph, .slice a n c] 24)).alloc (.cells #[.int .i64 aw, .int .i64 ah, .slice ax na ca] 64)) 64 #[.int .i64 bw, .int .i64 bh, .slice bx nb cb])
              simp only [World.size_alloc] at ka kb
              obtain ⟨W0, hW⟩ : ∃ W, (((w.alloc (.cells #[.int .i64 pw, .int .i64 ph, .slice a n c] 24)).alloc (.cells #[.int .i64 aw, .int .i64 ah, .slice ax na ca] 64)).alloc (.cells #[.int .i64 bw, .int .i64 bh, .slice bx nb cb] 64)) = W := ⟨_, rfl⟩
              rw [hW] at hB km ka kb
              have m0 := km.cell (i := 0) rfl
              have m1 := km.cell (i := 1) rfl
              have m2 := km.cell (i := 2) rfl
              have s0 := ka.cell (i := 0) rfl
              have s1 := ka.cell (i := 1) rfl
              have s2 := ka.cell (i := 2) rfl
              have t0 := kb.cell (i := 0) rfl
              have t1 := kb.cell (i := 1) rfl
              have t2 := kb.cell (i := 2) rfl
              go_enter Try.func17, Try.ntmps17
              go_wp2_with fail
              clear hW
              refine (alive_any _).mono ?_
              rintro e V1 ⟨rfl, hb⟩
              clear m0 m1 m2 s0 s1 s2 t0 t1 t2
              replace km := km.below hb km.lt
              replace ka := ka.below hb ka.lt
              replace kb := kb.below hb kb.lt
              replace hB := hB.trans (hb.mono hB.size)
              have m0 := km.cell (i := 0) rfl
              have m1 := km.cell (i := 1) rfl
              have m2 := km.cell (i := 2) rfl
              have s0 := ka.cell (i := 0) rfl
              have s1 := ka.cell (i := 1) rfl
              have s2 := ka.cell (i := 2) rfl
              have t0 := kb.cell (i := 0) rfl
              have t1 := kb.cell (i := 1) rfl
              have t2 := kb.cell (i := 2) rfl
              clear hb
              go_wp2_with fail
              have hcall := Compose_any aw ah ax ca na A hna bw bh bx cb nb B hnb _ (by omega) ((hra.below (Nat.le_refl _) hB).mono hB.size) (by omega) ((hrb.below (Nat.le_refl _) hB).mono hB.size)
              rw [hSK.out] at hcall
              refine hcall.mono ?_
              clear hcall
              rintro e V2 ⟨⟨v, hev, sl, hvl, hrow⟩, hb⟩
              have rK : V2.ownsRow w.heap.size 3 1 sl nk ((K).map (Value.int .i64)) := row_base (row_len (k := (K).length) hlK.out hrow) hB.size
              obtain ⟨srKa, srKc, rfl⟩ := row_slice rK
              have he : e = .returned (.tuple #[.agg #[.int .i64 kw, .int .i64 kh, .slice srKa nk srKc], .int .i64 0]) := by rw [hev, hvl]
              subst he
              clear hrow hev hvl
              clear m0 m1 m2 s0 s1 s2 t0 t1 t2
              replace km := km.below hb km.lt
              replace ka := ka.below hb ka.lt
              replace kb := kb.below hb kb.lt
              replace hB := hB.trans (hb.mono hB.size)
              have m0 := km.cell (i := 0) rfl
              have m1 := km.cell (i := 1) rfl
              have m2 := km.cell (i := 2) rfl
              have s0 := ka.cell (i := 0) rfl
              have s1 := ka.cell (i := 1) rfl
              have s2 := ka.cell (i := 2) rfl
              have t0 := kb.cell (i := 0) rfl
              have t1 := kb.cell (i := 1) rfl
              have t2 := kb.cell (i := 2) rfl
              clear hb
              obtain ⟨V3, hW⟩ : ∃ V3, V2.alloc (.cells #[.int .i64 kw, .int .i64 kh, .slice srKa nk srKc] 64) = V3 := ⟨_, rfl⟩
              obtain ⟨bkK, hbx⟩ : ∃ bkK, V2.heap.size = bkK := ⟨_, rfl⟩
              have kK := Blk.new V2 64 #[.int .i64 kw, .int .i64 kh, .slice srKa nk srKc]
              rw [hW, hbx] at kK
              have hb : Below V2.heap.size V2 V3 := alloc_below hW
              have km' := km.below hb km.lt
              have lkmkK := km.lt
              rw [hbx] at lkmkK
              have ka' := ka.below hb ka.lt
              have lkakK := ka.lt
              rw [hbx] at lkakK
              have kb' := kb.below hb kb.lt
              have lkbkK := kb.lt
              rw [hbx] at lkbkK
              have m0' := km'.cell (i := 0) rfl
              have m1' := km'.cell (i := 1) rfl
              have m2' := km'.cell (i := 2) rfl
              have s0' := ka'.cell (i := 0) rfl
              have s1' := ka'.cell (i := 1) rfl
              have s2' := ka'.cell (i := 2) rfl
              have t0' := kb'.cell (i := 0) rfl
              have t1' := kb'.cell (i := 1) rfl
              have t2' := kb'.cell (i := 2) rfl
              have xk0 := kK.cell (i := 0) rfl
              have xk1 := kK.cell (i := 1) rfl
              have xk2 := kK.cell (i := 2) rfl
              have fxk0 := kK.frozen 0
              have fxk1 := kK.frozen 1
              have fxk2 := kK.frozen 2
              go_wp2_with fail
              clear hW
              clear hbx
              clear m0 m1 m2 s0 s1 s2 t0 t1 t2
              clear m0' m1' m2' s0' s1' s2' t0' t1' t2'
              replace km := km'
              clear km'
              replace ka := ka'
              clear ka'
              replace kb := kb'
              clear kb'
              have m0 := km.cell (i := 0) rfl
              have m1 := km.cell (i := 1) rfl
              have m2 := km.cell (i := 2) rfl
              have s0 := ka.cell (i := 0) rfl
              have s1 := ka.cell (i := 1) rfl
              have s2 := ka.cell (i := 2) rfl
              have t0 := kb.cell (i := 0) rfl
              have t1 := kb.cell (i := 1) rfl
              have t2 := kb.cell (i := 2) rfl
              replace rK := row_below rK hb
              replace hB := hB.trans (hb.mono hB.size)
              clear hb
              have hcall := Compose_any bw bh bx cb nb B hnb aw ah ax ca na A hna _ (by omega) ((hrb.below (Nat.le_refl _) hB).mono hB.size) (by omega) ((hra.below (Nat.le_refl _) hB).mono hB.size)
              rw [hSL.out] at hcall
              refine hcall.mono ?_
              clear hcall
              rintro e V4 ⟨⟨v, hev, sl, hvl, hrow⟩, hb⟩
              have rL : V4.ownsRow w.heap.size 3 1 sl nk ((K).map (Value.int .i64)) := row_base (row_len (k := (K).length) hlK.out hrow) hB.size
              obtain ⟨srLa, srLc, rfl⟩ := row_slice rL
              have he : e = .returned (.tuple #[.agg #[.int .i64 kw, .int .i64 kh, .slice srLa nk srLc], .int .i64 0]) := by rw [hev, hvl]
              subst he
              clear hrow hev hvl
              clear m0 m1 m2 s0 s1 s2 t0 t1 t2 xk0 xk1 xk2 fxk0 fxk1 fxk2
              replace km := km.below hb km.lt
              replace ka := ka.below hb ka.lt
              replace kb := kb.below hb kb.lt
              replace kK := kK.below hb kK.lt
              replace rK := row_below rK hb
              replace hB := hB.trans (hb.mono hB.size)
              have m0 := km.cell (i := 0) rfl
              have m1 := km.cell (i := 1) rfl
              have m2 := km.cell (i := 2) rfl
              have s0 := ka.cell (i := 0) rfl
              have s1 := ka.cell (i := 1) rfl
              have s2 := ka.cell (i := 2) rfl
              have t0 := kb.cell (i := 0) rfl
              have t1 := kb.cell (i := 1) rfl
              have t2 := kb.cell (i := 2) rfl
              have xk0 := kK.cell (i := 0) rfl
              have xk1 := kK.cell (i := 1) rfl
              have xk2 := kK.cell (i := 2) rfl
              have fxk0 := kK.frozen 0
              have fxk1 := kK.frozen 1
              have fxk2 := kK.frozen 2
              clear hb
              obtain ⟨V5, hW⟩ : ∃ V5, V4.alloc (.cells #[.int .i64 kw, .int .i64 kh, .slice srLa nk srLc] 64) = V5 := ⟨_, rfl⟩
              obtain ⟨bkL, hbx⟩ : ∃ bkL, V4.heap.size = bkL := ⟨_, rfl⟩
              have kL := Blk.new V4 64 #[.int .i64 kw, .int .i64 kh, .slice srLa nk srLc]
              rw [hW, hbx] at kL
              have hb : Below V4.heap.size V4 V5 := alloc_below hW
              have km' := km.below hb km.lt
              have lkmkL := km.lt
              rw [hbx] at lkmkL
              have ka' := ka.below hb ka.lt
              have lkakL := ka.lt
              rw [hbx] at lkakL
              have kb' := kb.below hb kb.lt
              have lkbkL := kb.lt
              rw [hbx] at lkbkL
              have kK' := kK.below hb kK.lt
              have lkKkL := kK.lt
              rw [hbx] at lkKkL
              have m0' := km'.cell (i := 0) rfl
              have m1' := km'.cell (i := 1) rfl
              have m2' := km'.cell (i := 2) rfl
              have s0' := ka'.cell (i := 0) rfl
              have s1' := ka'.cell (i := 1) rfl
              have s2' := ka'.cell (i := 2) rfl
              have t0' := kb'.cell (i := 0) rfl
              have t1' := kb'.cell (i := 1) rfl
              have t2' := kb'.cell (i := 2) rfl
              have xk0' := kK'.cell (i := 0) rfl
              have xk1' := kK'.cell (i := 1) rfl
              have xk2' := kK'.cell (i := 2) rfl
              have fxk0' := kK'.frozen 0
              have fxk1' := kK'.frozen 1
              have fxk2' := kK'.frozen 2
              have xl0 := kL.cell (i := 0) rfl
              have xl1 := kL.cell (i := 1) rfl
              have xl2 := kL.cell (i := 2) rfl
              have fxl0 := kL.frozen 0
              have fxl1 := kL.frozen 1
              have fxl2 := kL.frozen 2
              go_wp2_with fail
              clear hW
              clear hbx
              clear m0 m1 m2 s0 s1 s2 t0 t1 t2 xk0 xk1 xk2 fxk0 fxk1 fxk2
              clear m0' m1' m2' s0' s1' s2' t0' t1' t2' xk0' xk1' xk2' fxk0' fxk1' fxk2'
              replace km := km'
              clear km'
              replace ka := ka'
              clear ka'
              replace kb := kb'
              clear kb'
              replace kK := kK'
              clear kK'
              have m0 := km.cell (i := 0) rfl
              have m1 := km.cell (i := 1) rfl
              have m2 := km.cell (i := 2) rfl
              have s0 := ka.cell (i := 0) rfl
              have s1 := ka.cell (i := 1) rfl
              have s2 := ka.cell (i := 2) rfl
              have t0 := kb.cell (i := 0) rfl
              have t1 := kb.cell (i := 1) rfl
              have t2 := kb.cell (i := 2) rfl
              have xk0 := kK.cell (i := 0) rfl
              have xk1 := kK.cell (i := 1) rfl
              have xk2 := kK.cell (i := 2) rfl
              have fxk0 := kK.frozen 0
              have fxk1 := kK.frozen 1
              have fxk2 := kK.frozen 2
              replace rK := row_below rK hb
              replace rL := row_below rL hb
              replace hB := hB.trans (hb.mono hB.size)
              clear hb
              refine (ValidKernel_any aw ah ax ca na A hna _ hka _ (by omega) ((hra.below (Nat.le_refl _) hB).mono hB.size)).mono ?_
              rintro e V6 ⟨rfl, hb⟩
              clear m0 m1 m2 s0 s1 s2 t0 t1 t2 xk0 xk1 xk2 fxk0 fxk1 fxk2 xl0 xl1 xl2 fxl0 fxl1 fxl2
              replace km := km.below hb km.lt
              replace ka := ka.below hb ka.lt
              replace kb := kb.below hb kb.lt
              replace kK := kK.below hb kK.lt
              replace kL := kL.below hb kL.lt
              replace rK := row_below rK hb
              replace rL := row_below rL hb
              replace hB := hB.trans (hb.mono hB.size)
              have m0 := km.cell (i := 0) rfl
              have m1 := km.cell (i := 1) rfl
              have m2 := km.cell (i := 2) rfl
              have s0 := ka.cell (i := 0) rfl
              have s1 := ka.cell (i := 1) rfl
              have s2 := ka.cell (i := 2) rfl
              have t0 := kb.cell (i := 0) rfl
              have t1 := kb.cell (i := 1) rfl
              have t2 := kb.cell (i := 2) rfl
              have xk0 := kK.cell (i := 0) rfl
              have xk1 := kK.cell (i := 1) rfl
              have xk2 := kK.cell (i := 2) rfl
              have fxk0 := kK.frozen 0
              have fxk1 := kK.frozen 1
              have fxk2 := kK.frozen 2
              have xl0 := kL.cell (i := 0) rfl
              have xl1 := kL.cell (i := 1) rfl
              have xl2 := kL.cell (i := 2) rfl
              have fxl0 := kL.frozen 0
              have fxl1 := kL.frozen 1
              have fxl2 := kL.frozen 2
              clear hb
              go_wp2_with fail
              refine (ValidKernel_any bw bh bx cb nb B hnb _ hkb _ (by omega) ((hrb.below (Nat.le_refl _) hB).mono hB.size)).mono ?_
              rintro e V7 ⟨rfl, hb⟩
              clear m0 m1 m2 s0 s1 s2 t0 t1 t2 xk0 xk1 xk2 fxk0 fxk1 fxk2 xl0 xl1 xl2 fxl0 fxl1 fxl2
              replace km := km.below hb km.lt
              replace ka := ka.below hb ka.lt
              replace kb := kb.below hb kb.lt
              replace kK := kK.below hb kK.lt
              replace kL := kL.below hb kL.lt
              replace rK := row_below rK hb
              replace rL := row_below rL hb
              replace hB := hB.trans (hb.mono hB.size)
              have m0 := km.cell (i := 0) rfl
              have m1 := km.cell (i := 1) rfl
              have m2 := km.cell (i := 2) rfl
              have s0 := ka.cell (i := 0) rfl
              have s1 := ka.cell (i := 1) rfl
              have s2 := ka.cell (i := 2) rfl
              have t0 := kb.cell (i := 0) rfl
              have t1 := kb.cell (i := 1) rfl
              have t2 := kb.cell (i := 2) rfl
              have xk0 := kK.cell (i := 0) rfl
              have xk1 := kK.cell (i := 1) rfl
              have xk2 := kK.cell (i := 2) rfl
              have fxk0 := kK.frozen 0
              have fxk1 := kK.frozen 1
              have fxk2 := kK.frozen 2
              have xl0 := kL.cell (i := 0) rfl
              have xl1 := kL.cell (i := 1) rfl
              have xl2 := kL.cell (i := 2) rfl
              have fxl0 := kL.frozen 0
              have fxl1 := kL.frozen 1
              have fxl2 := kL.frozen 2
              clear hb
              go_wp2_with fail
              refine (SameInts_eq srKa srLa srKc srLc nk K hlK _ (by omega) (row_rd' hlK.out rK) (row_rd' hlK.out rL)).mono ?_
              rintro e V8 ⟨rfl, hb⟩
              clear m0 m1 m2 s0 s1 s2 t0 t1 t2 xk0 xk1 xk2 fxk0 fxk1 fxk2 xl0 xl1 xl2 fxl0 fxl1 fxl2
              replace km := km.below hb km.lt
              replace ka := ka.below hb ka.lt
              replace kb := kb.below hb kb.lt
              replace kK := kK.below hb kK.lt
              replace kL := kL.below hb kL.lt
              replace rK := row_below rK hb
              replace rL := row_below rL hb
              replace hB := hB.trans (hb.mono hB.size)
              have m0 := km.cell (i := 0) rfl
              have m1 := km.cell (i := 1) rfl
              have m2 := km.cell (i := 2) rfl
              have s0 := ka.cell (i := 0) rfl
              have s1 := ka.cell (i := 1) rfl
              have s2 := ka.cell (i := 2) rfl
              have t0 := kb.cell (i := 0) rfl
              have t1 := kb.cell (i := 1) rfl
              have t2 := kb.cell (i := 2) rfl
              have xk0 := kK.cell (i := 0) rfl
              have xk1 := kK.cell (i := 1) rfl
              have xk2 := kK.cell (i := 2) rfl
              have fxk0 := kK.frozen 0
              have fxk1 := kK.frozen 1
              have fxk2 := kK.frozen 2
              have xl0 := kL.cell (i := 0) rfl
              have xl1 := kL.cell (i := 1) rfl
              have xl2 := kL.cell (i := 2) rfl
              have fxl0 := kL.frozen 0
              have fxl1 := kL.frozen 1
              have fxl2 := kL.frozen 2
              clear hb
              go_wp2_with fail
              refine (Valid_any pw ph a c xs n hn _ (by omega) ((hr.below (Nat.le_refl _) hB).mono hB.size)).mono ?_
              rintro e V28 ⟨rfl, hb⟩
              rw [hzv.out]
              clear m0 m1 m2 s0 s1 s2 t0 t1 t2 xk0 xk1 xk2 fxk0 fxk1 fxk2 xl0 xl1 xl2 fxl0 fxl1 fxl2
              replace km := km.below hb km.lt
              replace ka := ka.below hb ka.lt
              replace kb := kb.below hb kb.lt
              replace kK := kK.below hb kK.lt
              replace kL := kL.below hb kL.lt
              replace rK := row_below rK hb
              replace rL := row_below rL hb
              replace hB := hB.trans (hb.mono hB.size)
              have m0 := km.cell (i := 0) rfl
              have m1 := km.cell (i := 1) rfl
              have m2 := km.cell (i := 2) rfl
              have s0 := ka.cell (i := 0) rfl
              have s1 := ka.cell (i := 1) rfl
              have s2 := ka.cell (i := 2) rfl
              have t0 := kb.cell (i := 0) rfl
              have t1 := kb.cell (i := 1) rfl
              have t2 := kb.cell (i := 2) rfl
              have xk0 := kK.cell (i := 0) rfl
              have xk1 := kK.cell (i := 1) rfl
              have xk2 := kK.cell (i := 2) rfl
              have fxk0 := kK.frozen 0
              have fxk1 := kK.frozen 1
              have fxk2 := kK.frozen 2
              have xl0 := kL.cell (i := 0) rfl
              have xl1 := kL.cell (i := 1) rfl
              have xl2 := kL.cell (i := 2) rfl
              have fxl0 := kL.frozen 0
              have fxl1 := kL.frozen 1
              have fxl2 := kL.frozen 2
              clear hb
              go_wp2_with fail
              refine (modest_any pw ph a c n xs hn 1000 (by decide) (by decide) _ hmo hn0 _ (by omega) ((hr.below (Nat.le_refl _) hB).mono hB.size)).mono ?_
              rintro e V9 ⟨rfl, hb⟩
              clear m0 m1 m2 s0 s1 s2 t0 t1 t2 xk0 xk1 xk2 fxk0 fxk1 fxk2 xl0 xl1 xl2 fxl0 fxl1 fxl2
              replace km := km.below hb km.lt
              replace ka := ka.below hb ka.lt
              replace kb := kb.below hb kb.lt
              replace kK := kK.below hb kK.lt
              replace kL := kL.below hb kL.lt
              replace rK := row_below rK hb
              replace rL := row_below rL hb
              replace hB := hB.trans (hb.mono hB.size)
              have m0 := km.cell (i := 0) rfl
              have m1 := km.cell (i := 1) rfl
              have m2 := km.cell (i := 2) rfl
              have s0 := ka.cell (i := 0) rfl
              have s1 := ka.cell (i := 1) rfl
              have s2 := ka.cell (i := 2) rfl
              have t0 := kb.cell (i := 0) rfl
              have t1 := kb.cell (i := 1) rfl
              have t2 := kb.cell (i := 2) rfl
              have xk0 := kK.cell (i := 0) rfl
              have xk1 := kK.cell (i := 1) rfl
              have xk2 := kK.cell (i := 2) rfl
              have fxk0 := kK.frozen 0
              have fxk1 := kK.frozen 1
              have fxk2 := kK.frozen 2
              have xl0 := kL.cell (i := 0) rfl
              have xl1 := kL.cell (i := 1) rfl
              have xl2 := kL.cell (i := 2) rfl
              have fxl0 := kL.frozen 0
              have fxl1 := kL.frozen 1
              have fxl2 := kL.frozen 2
              clear hb
              go_wp2_with fail
              refine (small_any aw ah ax ca na A hna 50 (by decide) (by decide) _ hsa hna0 _ (by omega) ((hra.below (Nat.le_refl _) hB).mono hB.size)).mono ?_
              rintro e V10 ⟨rfl, hb⟩
              clear m0 m1 m2 s0 s1 s2 t0 t1 t2 xk0 xk1 xk2 fxk0 fxk1 fxk2 xl0 xl1 xl2 fxl0 fxl1 fxl2
              replace km := km.below hb km.lt
              replace ka := ka.below hb ka.lt
              replace kb := kb.below hb kb.lt
              replace kK := kK.below hb kK.lt
              replace kL := kL.below hb kL.lt
              replace rK := row_below rK hb
              replace rL := row_below rL hb
              replace hB := hB.trans (hb.mono hB.size)
              have m0 := km.cell (i := 0) rfl
              have m1 := km.cell (i := 1) rfl
              have m2 := km.cell (i := 2) rfl
              have s0 := ka.cell (i := 0) rfl
              have s1 := ka.cell (i := 1) rfl
              have s2 := ka.cell (i := 2) rfl
              have t0 := kb.cell (i := 0) rfl
              have t1 := kb.cell (i := 1) rfl
              have t2 := kb.cell (i := 2) rfl
              have xk0 := kK.cell (i := 0) rfl
              have xk1 := kK.cell (i := 1) rfl
              have xk2 := kK.cell (i := 2) rfl
              have fxk0 := kK.frozen 0
              have fxk1 := kK.frozen 1
              have fxk2 := kK.frozen 2
              have xl0 := kL.cell (i := 0) rfl
              have xl1 := kL.cell (i := 1) rfl
              have xl2 := kL.cell (i := 2) rfl
              have fxl0 := kL.frozen 0
              have fxl1 := kL.frozen 1
              have fxl2 := kL.frozen 2
              clear hb
              go_wp2_with fail
              go_ret
              exact ⟨rfl, hB⟩
            | true =>
              obtain ⟨vsb, h0sb⟩ : ∃ v, allIn (-50) 50 B = v := ⟨_, rfl⟩
              have hsb := Lib.hid h0sb
              clear h0sb
              cases vsb with
              | false =>
                have hB : Below w.heap.size w (((w.alloc (.cells #[.int .i64 pw, .int .i64 ph, .slice a n c] 24)).alloc (.cells #[.int .i64 aw, .int .i64 ah, .slice ax na ca] 64)).alloc (.cells #[.int .i64 bw, .int .i64 bh, .slice bx nb cb] 64)) := below_al (below_al (below_al (Below.refl _ _) _) _) _
                have km := (((Blk.new w 24 #[.int .i64 pw, .int .i64 ph, .slice a n c]).alloc (.cells #[.int .i64 aw, .int .i64 ah, .slice ax na ca] 64)).alloc (.cells #[.int .i64 bw, .int .i64 bh, .slice bx nb cb] 64))
                have ka := ((Blk.new (w.alloc (.cells #[.int .i64 pw, .int .i64 ph, .slice a n c] 24)) 64 #[.int .i64 aw, .int .i64 ah, .slice ax na ca]).alloc (.cells #[.int .i64 bw, .int .i64 bh, .slice bx nb cb] 64))
                have kb := (Blk.new ((w.alloc (.cells #[.int .i64 pw, .int .i64 ph, .slice a n c] 24)).alloc (.cells #[.int .i64 aw, .int .i64 ah, .slice ax na ca] 64)) 64 #[.int .i64 bw, .int .i64 bh, .slice bx nb cb])
                simp only [World.size_alloc] at ka kb
                obtain ⟨W0, hW⟩ : ∃ W, (((w.alloc (.cells #[.int .i64 pw, .int .i64 ph, .slice a n c] 24)).alloc (.cells #[.int .i64 aw, .int .i64 ah, .slice ax na ca] 64)).alloc (.cells #[.int .i64 bw, .int .i64 bh, .slice bx nb cb] 64)) = W := ⟨_, rfl⟩
                rw [hW] at hB km ka kb
                have m0 := km.cell (i := 0) rfl
                have m1 := km.cell (i := 1) rfl
                have m2 := km.cell (i := 2) rfl
                have s0 := ka.cell (i := 0) rfl
                have s1 := ka.cell (i := 1) rfl
                have s2 := ka.cell (i := 2) rfl
                have t0 := kb.cell (i := 0) rfl
                have t1 := kb.cell (i := 1) rfl
                have t2 := kb.cell (i := 2) rfl
                go_enter Try.func17, Try.ntmps17
                go_wp2_with fail
                clear hW
                refine (alive_any _).mono ?_
                rintro e V1 ⟨rfl, hb⟩
                clear m0 m1 m2 s0 s1 s2 t0 t1 t2
                replace km := km.below hb km.lt
                replace ka := ka.below hb ka.lt
                replace kb := kb.below hb kb.lt
                replace hB := hB.trans (hb.mono hB.size)
                have m0 := km.cell (i := 0) rfl
                have m1 := km.cell (i := 1) rfl
                have m2 := km.cell (i := 2) rfl
                have s0 := ka.cell (i := 0) rfl
                have s1 := ka.cell (i := 1) rfl
                have s2 := ka.cell (i := 2) rfl
                have t0 := kb.cell (i := 0) rfl
                have t1 := kb.cell (i := 1) rfl
                have t2 := kb.cell (i := 2) rfl
                clear hb
                go_wp2_with fail
                have hcall := Compose_any aw ah ax ca na A hna bw bh bx cb nb B hnb _ (by omega) ((hra.below (Nat.le_refl _) hB).mono hB.size) (by omega) ((hrb.below (Nat.le_refl _) hB).mono hB.size)
                rw [hSK.out] at hcall
                refine hcall.mono ?_
                clear hcall
                rintro e V2 ⟨⟨v, hev, sl, hvl, hrow⟩, hb⟩
                have rK : V2.ownsRow w.heap.size 3 1 sl nk ((K).map (Value.int .i64)) := row_base (row_len (k := (K).length) hlK.out hrow) hB.size
                obtain ⟨srKa, srKc, rfl⟩ := row_slice rK
                have he : e = .returned (.tuple #[.agg #[.int .i64 kw, .int .i64 kh, .slice srKa nk srKc], .int .i64 0]) := by rw [hev, hvl]
                subst he
                clear hrow hev hvl
                clear m0 m1 m2 s0 s1 s2 t0 t1 t2
                replace km := km.below hb km.lt
                replace ka := ka.below hb ka.lt
                replace kb := kb.below hb kb.lt
                replace hB := hB.trans (hb.mono hB.size)
                have m0 := km.cell (i := 0) rfl
                have m1 := km.cell (i := 1) rfl
                have m2 := km.cell (i := 2) rfl
                have s0 := ka.cell (i := 0) rfl
                have s1 := ka.cell (i := 1) rfl
                have s2 := ka.cell (i := 2) rfl
                have t0 := kb.cell (i := 0) rfl
                have t1 := kb.cell (i := 1) rfl
                have t2 := kb.cell (i := 2) rfl
                clear hb
                obtain ⟨V3, hW⟩ : ∃ V3, V2.alloc (.cells #[.int .i64 kw, .int .i64 kh, .slice srKa nk srKc] 64) = V3 := ⟨_, rfl⟩
                obtain ⟨bkK, hbx⟩ : ∃ bkK, V2.heap.size = bkK := ⟨_, rfl⟩
                have kK := Blk.new V2 64 #[.int .i64 kw, .int .i64 kh, .slice srKa nk srKc]
                rw [hW, hbx] at kK
                have hb : Below V2.heap.size V2 V3 := alloc_below hW
                have km' := km.below hb km.lt
                have lkmkK := km.lt
                rw [hbx] at lkmkK
                have ka' := ka.below hb ka.lt
                have lkakK := ka.lt
                rw [hbx] at lkakK
                have kb' := kb.below hb kb.lt
                have lkbkK := kb.lt
                rw [hbx] at lkbkK
                have m0' := km'.cell (i := 0) rfl
                have m1' := km'.cell (i := 1) rfl
                have m2' := km'.cell (i := 2) rfl
                have s0' := ka'.cell (i := 0) rfl
                have s1' := ka'.cell (i := 1) rfl
                have s2' := ka'.cell (i := 2) rfl
                have t0' := kb'.cell (i := 0) rfl
                have t1' := kb'.cell (i := 1) rfl
                have t2' := kb'.cell (i := 2) rfl
                have xk0 := kK.cell (i := 0) rfl
                have xk1 := kK.cell (i := 1) rfl
                have xk2 := kK.cell (i := 2) rfl
                have fxk0 := kK.frozen 0
                have fxk1 := kK.frozen 1
                have fxk2 := kK.frozen 2
                go_wp2_with fail
                clear hW
                clear hbx
                clear m0 m1 m2 s0 s1 s2 t0 t1 t2
                clear m0' m1' m2' s0' s1' s2' t0' t1' t2'
                replace km := km'
                clear km'
                replace ka := ka'
                clear ka'
                replace kb := kb'
                clear kb'
                have m0 := km.cell (i := 0) rfl
                have m1 := km.cell (i := 1) rfl
                have m2 := km.cell (i := 2) rfl
                have s0 := ka.cell (i := 0) rfl
                have s1 := ka.cell (i := 1) rfl
                have s2 := ka.cell (i := 2) rfl
                have t0 := kb.cell (i := 0) rfl
                have t1 := kb.cell (i := 1) rfl
                have t2 := kb.cell (i := 2) rfl
                replace rK := row_below rK hb
                replace hB := hB.trans (hb.mono hB.size)
                clear hb
                have hcall := Compose_any bw bh bx cb nb B hnb aw ah ax ca na A hna _ (by omega) ((hrb.below (Nat.le_refl _) hB).mono hB.size) (by omega) ((hra.below (Nat.le_refl _) hB).mono hB.size)
                rw [hSL.out] at hcall
                refine hcall.mono ?_
                clear hcall
                rintro e V4 ⟨⟨v, hev, sl, hvl, hrow⟩, hb⟩
                have rL : V4.ownsRow w.heap.size 3 1 sl nk ((K).map (Value.int .i64)) := row_base (row_len (k := (K).length) hlK.out hrow) hB.size
                obtain ⟨srLa, srLc, rfl⟩ := row_slice rL
                have he : e = .returned (.tuple #[.agg #[.int .i64 kw, .int .i64 kh, .slice srLa nk srLc], .int .i64 0]) := by rw [hev, hvl]
                subst he
                clear hrow hev hvl
                clear m0 m1 m2 s0 s1 s2 t0 t1 t2 xk0 xk1 xk2 fxk0 fxk1 fxk2
                replace km := km.below hb km.lt
                replace ka := ka.below hb ka.lt
                replace kb := kb.below hb kb.lt
                replace kK := kK.below hb kK.lt
                replace rK := row_below rK hb
                replace hB := hB.trans (hb.mono hB.size)
                have m0 := km.cell (i := 0) rfl
                have m1 := km.cell (i := 1) rfl
                have m2 := km.cell (i := 2) rfl
                have s0 := ka.cell (i := 0) rfl
                have s1 := ka.cell (i := 1) rfl
                have s2 := ka.cell (i := 2) rfl
                have t0 := kb.cell (i := 0) rfl
                have t1 := kb.cell (i := 1) rfl
                have t2 := kb.cell (i := 2) rfl
                have xk0 := kK.cell (i := 0) rfl
                have xk1 := kK.cell (i := 1) rfl
                have xk2 := kK.cell (i := 2) rfl
                have fxk0 := kK.frozen 0
                have fxk1 := kK.frozen 1
                have fxk2 := kK.frozen 2
                clear hb
                obtain ⟨V5, hW⟩ : ∃ V5, V4.alloc (.cells #[.int .i64 kw, .int .i64 kh, .slice srLa nk srLc] 64) = V5 := ⟨_, rfl⟩
                obtain ⟨bkL, hbx⟩ : ∃ bkL, V4.heap.size = bkL := ⟨_, rfl⟩
                have kL := Blk.new V4 64 #[.int .i64 kw, .int .i64 kh, .slice srLa nk srLc]
                rw [hW, hbx] at kL
                have hb : Below V4.heap.size V4 V5 := alloc_below hW
                have km' := km.below hb km.lt
                have lkmkL := km.lt
                rw [hbx] at lkmkL
                have ka' := ka.below hb ka.lt
                have lkakL := ka.lt
                rw [hbx] at lkakL
                have kb' := kb.below hb kb.lt
                have lkbkL := kb.lt
                rw [hbx] at lkbkL
                have kK' := kK.below hb kK.lt
                have lkKkL := kK.lt
                rw [hbx] at lkKkL
                have m0' := km'.cell (i := 0) rfl
                have m1' := km'.cell (i := 1) rfl
                have m2' := km'.cell (i := 2) rfl
                have s0' := ka'.cell (i := 0) rfl
                have s1' := ka'.cell (i := 1) rfl
                have s2' := ka'.cell (i := 2) rfl
                have t0' := kb'.cell (i := 0) rfl
                have t1' := kb'.cell (i := 1) rfl
                have t2' := kb'.cell (i := 2) rfl
                have xk0' := kK'.cell (i := 0) rfl
                have xk1' := kK'.cell (i := 1) rfl
                have xk2' := kK'.cell (i := 2) rfl
                have fxk0' := kK'.frozen 0
                have fxk1' := kK'.frozen 1
                have fxk2' := kK'.frozen 2
                have xl0 := kL.cell (i := 0) rfl
                have xl1 := kL.cell (i := 1) rfl
                have xl2 := kL.cell (i := 2) rfl
                have fxl0 := kL.frozen 0
                have fxl1 := kL.frozen 1
                have fxl2 := kL.frozen 2
                go_wp2_with fail
                clear hW
                clear hbx
                clear m0 m1 m2 s0 s1 s2 t0 t1 t2 xk0 xk1 xk2 fxk0 fxk1 fxk2
                clear m0' m1' m2' s0' s1' s2' t0' t1' t2' xk0' xk1' xk2' fxk0' fxk1' fxk2'
                replace km := km'
                clear km'
                replace ka := ka'
                clear ka'
                replace kb := kb'
                clear kb'
                replace kK := kK'
                clear kK'
                have m0 := km.cell (i := 0) rfl
                have m1 := km.cell (i := 1) rfl
                have m2 := km.cell (i := 2) rfl
                have s0 := ka.cell (i := 0) rfl
                have s1 := ka.cell (i := 1) rfl
                have s2 := ka.cell (i := 2) rfl
                have t0 := kb.cell (i := 0) rfl
                have t1 := kb.cell (i := 1) rfl
                have t2 := kb.cell (i := 2) rfl
                have xk0 := kK.cell (i := 0) rfl
                have xk1 := kK.cell (i := 1) rfl
                have xk2 := kK.cell (i := 2) rfl
                have fxk0 := kK.frozen 0
                have fxk1 := kK.frozen 1
                have fxk2 := kK.frozen 2
                replace rK := row_below rK hb
                replace rL := row_below rL hb
                replace hB := hB.trans (hb.mono hB.size)
                clear hb
                refine (ValidKernel_any aw ah ax ca na A hna _ hka _ (by omega) ((hra.below (Nat.le_refl _) hB).mono hB.size)).mono ?_
                rintro e V6 ⟨rfl, hb⟩
                clear m0 m1 m2 s0 s1 s2 t0 t1 t2 xk0 xk1 xk2 fxk0 fxk1 fxk2 xl0 xl1 xl2 fxl0 fxl1 fxl2
                replace km := km.below hb km.lt
                replace ka := ka.below hb ka.lt
                replace kb := kb.below hb kb.lt
                replace kK := kK.below hb kK.lt
                replace kL := kL.below hb kL.lt
                replace rK := row_below rK hb
                replace rL := row_below rL hb
                replace hB := hB.trans (hb.mono hB.size)
                have m0 := km.cell (i := 0) rfl
                have m1 := km.cell (i := 1) rfl
                have m2 := km.cell (i := 2) rfl
                have s0 := ka.cell (i := 0) rfl
                have s1 := ka.cell (i := 1) rfl
                have s2 := ka.cell (i := 2) rfl
                have t0 := kb.cell (i := 0) rfl
                have t1 := kb.cell (i := 1) rfl
                have t2 := kb.cell (i := 2) rfl
                have xk0 := kK.cell (i := 0) rfl
                have xk1 := kK.cell (i := 1) rfl
                have xk2 := kK.cell (i := 2) rfl
                have fxk0 := kK.frozen 0
                have fxk1 := kK.frozen 1
                have fxk2 := kK.frozen 2
                have xl0 := kL.cell (i := 0) rfl
                have xl1 := kL.cell (i := 1) rfl
                have xl2 := kL.cell (i := 2) rfl
                have fxl0 := kL.frozen 0
                have fxl1 := kL.frozen 1
                have fxl2 := kL.frozen 2
                clear hb
                go_wp2_with fail
                refine (ValidKernel_any bw bh bx cb nb B hnb _ hkb _ (by omega) ((hrb.below (Nat.le_refl _) hB).mono hB.size)).mono ?_
                rintro e V7 ⟨rfl, hb⟩
                clear m0 m1 m2 s0 s1 s2 t0 t1 t2 xk0 xk1 xk2 fxk0 fxk1 fxk2 xl0 xl1 xl2 fxl0 fxl1 fxl2
                replace km := km.below hb km.lt
                replace ka := ka.below hb ka.lt
                replace kb := kb.below hb kb.lt
                replace kK := kK.below hb kK.lt
                replace kL := kL.below hb kL.lt
                replace rK := row_below rK hb
                replace rL := row_below rL hb
                replace hB := hB.trans (hb.mono hB.size)
                have m0 := km.cell (i := 0) rfl
                have m1 := km.cell (i := 1) rfl
                have m2 := km.cell (i := 2) rfl
                have s0 := ka.cell (i := 0) rfl
                have s1 := ka.cell (i := 1) rfl
                have s2 := ka.cell (i := 2) rfl
                have t0 := kb.cell (i := 0) rfl
                have t1 := kb.cell (i := 1) rfl
                have t2 := kb.cell (i := 2) rfl
                have xk0 := kK.cell (i := 0) rfl
                have xk1 := kK.cell (i := 1) rfl
                have xk2 := kK.cell (i := 2) rfl
                have fxk0 := kK.frozen 0
                have fxk1 := kK.frozen 1
                have fxk2 := kK.frozen 2
                have xl0 := kL.cell (i := 0) rfl
                have xl1 := kL.cell (i := 1) rfl
                have xl2 := kL.cell (i := 2) rfl
                have fxl0 := kL.frozen 0
                have fxl1 := kL.frozen 1
                have fxl2 := kL.frozen 2
                clear hb
                go_wp2_with fail
                refine (SameInts_eq srKa srLa srKc srLc nk K hlK _ (by omega) (row_rd' hlK.out rK) (row_rd' hlK.out rL)).mono ?_
                rintro e V8 ⟨rfl, hb⟩
                clear m0 m1 m2 s0 s1 s2 t0 t1 t2 xk0 xk1 xk2 fxk0 fxk1 fxk2 xl0 xl1 xl2 fxl0 fxl1 fxl2
                replace km := km.below hb km.lt
                replace ka := ka.below hb ka.lt
                replace kb := kb.below hb kb.lt
                replace kK := kK.below hb kK.lt
                replace kL := kL.below hb kL.lt
                replace rK := row_below rK hb
                replace rL := row_below rL hb
                replace hB := hB.trans (hb.mono hB.size)
                have m0 := km.cell (i := 0) rfl
                have m1 := km.cell (i := 1) rfl
                have m2 := km.cell (i := 2) rfl
                have s0 := ka.cell (i := 0) rfl
                have s1 := ka.cell (i := 1) rfl
                have s2 := ka.cell (i := 2) rfl
                have t0 := kb.cell (i := 0) rfl
                have t1 := kb.cell (i := 1) rfl
                have t2 := kb.cell (i := 2) rfl
                have xk0 := kK.cell (i := 0) rfl
                have xk1 := kK.cell (i := 1) rfl
                have xk2 := kK.cell (i := 2) rfl
                have fxk0 := kK.frozen 0
                have fxk1 := kK.frozen 1
                have fxk2 := kK.frozen 2
                have xl0 := kL.cell (i := 0) rfl
                have xl1 := kL.cell (i := 1) rfl
                have xl2 := kL.cell (i := 2) rfl
                have fxl0 := kL.frozen 0
                have fxl1 := kL.frozen 1
                have fxl2 := kL.frozen 2
                clear hb
                go_wp2_with fail
                refine (Valid_any pw ph a c xs n hn _ (by omega) ((hr.below (Nat.le_refl _) hB).mono hB.size)).mono ?_
                rintro e V28 ⟨rfl, hb⟩
                rw [hzv.out]
                clear m0 m1 m2 s0 s1 s2 t0 t1 t2 xk0 xk1 xk2 fxk0 fxk1 fxk2 xl0 xl1 xl2 fxl0 fxl1 fxl2
                replace km := km.below hb km.lt
                replace ka := ka.below hb ka.lt
                replace kb := kb.below hb kb.lt
                replace kK := kK.below hb kK.lt
                replace kL := kL.below hb kL.lt
                replace rK := row_below rK hb
                replace rL := row_below rL hb
                replace hB := hB.trans (hb.mono hB.size)
                have m0 := km.cell (i := 0) rfl
                have m1 := km.cell (i := 1) rfl
                have m2 := km.cell (i := 2) rfl
                have s0 := ka.cell (i := 0) rfl
                have s1 := ka.cell (i := 1) rfl
                have s2 := ka.cell (i := 2) rfl
                have t0 := kb.cell (i := 0) rfl
                have t1 := kb.cell (i := 1) rfl
                have t2 := kb.cell (i := 2) rfl
                have xk0 := kK.cell (i := 0) rfl
                have xk1 := kK.cell (i := 1) rfl
                have xk2 := kK.cell (i := 2) rfl
                have fxk0 := kK.frozen 0
                have fxk1 := kK.frozen 1
                have fxk2 := kK.frozen 2
                have xl0 := kL.cell (i := 0) rfl
                have xl1 := kL.cell (i := 1) rfl
                have xl2 := kL.cell (i := 2) rfl
                have fxl0 := kL.frozen 0
                have fxl1 := kL.frozen 1
                have fxl2 := kL.frozen 2
                clear hb
                go_wp2_with fail
                refine (modest_any pw ph a c n xs hn 1000 (by decide) (by decide) _ hmo hn0 _ (by omega) ((hr.below (Nat.le_refl _) hB).mono hB.size)).mono ?_
                rintro e V9 ⟨rfl, hb⟩
                clear m0 m1 m2 s0 s1 s2 t0 t1 t2 xk0 xk1 xk2 fxk0 fxk1 fxk2 xl0 xl1 xl2 fxl0 fxl1 fxl2
                replace km := km.below hb km.lt
                replace ka := ka.below hb ka.lt
                replace kb := kb.below hb kb.lt
                replace kK := kK.below hb kK.lt
                replace kL := kL.below hb kL.lt
                replace rK := row_below rK hb
                replace rL := row_below rL hb
                replace hB := hB.trans (hb.mono hB.size)
                have m0 := km.cell (i := 0) rfl
                have m1 := km.cell (i := 1) rfl
                have m2 := km.cell (i := 2) rfl
                have s0 := ka.cell (i := 0) rfl
                have s1 := ka.cell (i := 1) rfl
                have s2 := ka.cell (i := 2) rfl
                have t0 := kb.cell (i := 0) rfl
                have t1 := kb.cell (i := 1) rfl
                have t2 := kb.cell (i := 2) rfl
                have xk0 := kK.cell (i := 0) rfl
                have xk1 := kK.cell (i := 1) rfl
                have xk2 := kK.cell (i := 2) rfl
                have fxk0 := kK.frozen 0
                have fxk1 := kK.frozen 1
                have fxk2 := kK.frozen 2
                have xl0 := kL.cell (i := 0) rfl
                have xl1 := kL.cell (i := 1) rfl
                have xl2 := kL.cell (i := 2) rfl
                have fxl0 := kL.frozen 0
                have fxl1 := kL.frozen 1
                have fxl2 := kL.frozen 2
                clear hb
                go_wp2_with fail
                refine (small_any aw ah ax ca na A hna 50 (by decide) (by decide) _ hsa hna0 _ (by omega) ((hra.below (Nat.le_refl _) hB).mono hB.size)).mono ?_
                rintro e V10 ⟨rfl, hb⟩
                clear m0 m1 m2 s0 s1 s2 t0 t1 t2 xk0 xk1 xk2 fxk0 fxk1 fxk2 xl0 xl1 xl2 fxl0 fxl1 fxl2
                replace km := km.below hb km.lt
                replace ka := ka.below hb ka.lt
                replace kb := kb.below hb kb.lt
                replace kK := kK.below hb kK.lt
                replace kL := kL.below hb kL.lt
                replace rK := row_below rK hb
                replace rL := row_below rL hb
                replace hB := hB.trans (hb.mono hB.size)
                have m0 := km.cell (i := 0) rfl
                have m1 := km.cell (i := 1) rfl
                have m2 := km.cell (i := 2) rfl
                have s0 := ka.cell (i := 0) rfl
                have s1 := ka.cell (i := 1) rfl
                have s2 := ka.cell (i := 2) rfl
                have t0 := kb.cell (i := 0) rfl
                have t1 := kb.cell (i := 1) rfl
                have t2 := kb.cell (i := 2) rfl
                have xk0 := kK.cell (i := 0) rfl
                have xk1 := kK.cell (i := 1) rfl
                have xk2 := kK.cell (i := 2) rfl
                have fxk0 := kK.frozen 0
                have fxk1 := kK.frozen 1
                have fxk2 := kK.frozen 2
                have xl0 := kL.cell (i := 0) rfl
                have xl1 := kL.cell (i := 1) rfl
                have xl2 := kL.cell (i := 2) rfl
                have fxl0 := kL.frozen 0
                have fxl1 := kL.frozen 1
                have fxl2 := kL.frozen 2
                clear hb
                go_wp2_with fail
                refine (small_any bw bh bx cb nb B hnb 50 (by decide) (by decide) _ hsb hnb0 _ (by omega) ((hrb.below (Nat.le_refl _) hB).mono hB.size)).mono ?_
                rintro e V11 ⟨rfl, hb⟩
                clear m0 m1 m2 s0 s1 s2 t0 t1 t2 xk0 xk1 xk2 fxk0 fxk1 fxk2 xl0 xl1 xl2 fxl0 fxl1 fxl2
                replace km := km.below hb km.lt
                replace ka := ka.below hb ka.lt
                replace kb := kb.below hb kb.lt
                replace kK := kK.below hb kK.lt
                replace kL := kL.below hb kL.lt
                replace rK := row_below rK hb
                replace rL := row_below rL hb
                replace hB := hB.trans (hb.mono hB.size)
                have m0 := km.cell (i := 0) rfl
                have m1 := km.cell (i := 1) rfl
                have m2 := km.cell (i := 2) rfl
                have s0 := ka.cell (i := 0) rfl
                have s1 := ka.cell (i := 1) rfl
                have s2 := ka.cell (i := 2) rfl
                have t0 := kb.cell (i := 0) rfl
                have t1 := kb.cell (i := 1) rfl
                have t2 := kb.cell (i := 2) rfl
                have xk0 := kK.cell (i := 0) rfl
                have xk1 := kK.cell (i := 1) rfl
                have xk2 := kK.cell (i := 2) rfl
                have fxk0 := kK.frozen 0
                have fxk1 := kK.frozen 1
                have fxk2 := kK.frozen 2
                have xl0 := kL.cell (i := 0) rfl
                have xl1 := kL.cell (i := 1) rfl
                have xl2 := kL.cell (i := 2) rfl
                have fxl0 := kL.frozen 0
                have fxl1 := kL.frozen 1
                have fxl2 := kL.frozen 2
                clear hb
                go_wp2_with fail
                go_ret
                exact ⟨rfl, hB⟩
              | true =>
                have hlX := Lib.hid (show (img pw ph (convG 3 pw ph xs aw ah A)).length = n from (img_length _ _ _).trans hN)
                have hlY := Lib.hid (show (img pw ph (convG 3 pw ph (img pw ph (convG 3 pw ph xs aw ah A)) bw bh B)).length = n from (img_length _ _ _).trans hN)
                have hSX := Lib.hid (convS_ok (bd := 3) hzv.out hka.out (by decide) (by decide))
                have hSY := Lib.hid (convS_ok (bd := 3) (vld_img i1' i2' i3' i4' (convG 3 pw ph xs aw ah A)) hkb.out (by decide) (by decide))
                have hSZ := Lib.hid ((convS_ok (bd := 3) hzv.out hkK.out (by decide) (by decide)).trans (congrArg (fun l => ImR.mk (pw : Int) (ph : Int) l 0) (hcomp.out pw ph xs (by omega) (by omega) hmo.out hsa.out hsb.out).symm))
                clear hN hkK hcomp
                generalize img pw ph (convG 3 pw ph (img pw ph (convG 3 pw ph xs aw ah A)) bw bh B) = Y at *
                generalize img pw ph (convG 3 pw ph xs aw ah A) = X at *
                have hB : Below w.heap.size w (((w.alloc (.cells #[.int .i64 pw, .int .i64 ph, .slice a n c] 24)).alloc (.cells #[.int .i64 aw, .int .i64 ah, .slice ax na ca] 64)).alloc (.cells #[.int .i64 bw, .int .i64 bh, .slice bx nb cb] 64)) := below_al (below_al (below_al (Below.refl _ _) _) _) _
                have km := (((Blk.new w 24 #[.int .i64 pw, .int .i64 ph, .slice a n c]).alloc (.cells #[.int .i64 aw, .int .i64 ah, .slice ax na ca] 64)).alloc (.cells #[.int .i64 bw, .int .i64 bh, .slice bx nb cb] 64))
                have ka := ((Blk.new (w.alloc (.cells #[.int .i64 pw, .int .i64 ph, .slice a n c] 24)) 64 #[.int .i64 aw, .int .i64 ah, .slice ax na ca]).alloc (.cells #[.int .i64 bw, .int .i64 bh, .slice bx nb cb] 64))
                have kb := (Blk.new ((w.alloc (.cells #[.int .i64 pw, .int .i64 ph, .slice a n c] 24)).alloc (.cells #[.int .i64 aw, .int .i64 ah, .slice ax na ca] 64)) 64 #[.int .i64 bw, .int .i64 bh, .slice bx nb cb])
                simp only [World.size_alloc] at ka kb
                obtain ⟨W0, hW⟩ : ∃ W, (((w.alloc (.cells #[.int .i64 pw, .int .i64 ph, .slice a n c] 24)).alloc (.cells #[.int .i64 aw, .int .i64 ah, .slice ax na ca] 64)).alloc (.cells #[.int .i64 bw, .int .i64 bh, .slice bx nb cb] 64)) = W := ⟨_, rfl⟩
                rw [hW] at hB km ka kb
                have m0 := km.cell (i := 0) rfl
                have m1 := km.cell (i := 1) rfl
                have m2 := km.cell (i := 2) rfl
                have s0 := ka.cell (i := 0) rfl
                have s1 := ka.cell (i := 1) rfl
                have s2 := ka.cell (i := 2) rfl
                have t0 := kb.cell (i := 0) rfl
                have t1 := kb.cell (i := 1) rfl
                have t2 := kb.cell (i := 2) rfl
                go_enter Try.func17, Try.ntmps17
                go_wp2_with fail
                clear hW
                refine (alive_any _).mono ?_
                rintro e V1 ⟨rfl, hb⟩
                clear m0 m1 m2 s0 s1 s2 t0 t1 t2
                replace km := km.below hb km.lt
                replace ka := ka.below hb ka.lt
                replace kb := kb.below hb kb.lt
                replace hB := hB.trans (hb.mono hB.size)
                have m0 := km.cell (i := 0) rfl
                have m1 := km.cell (i := 1) rfl
                have m2 := km.cell (i := 2) rfl
                have s0 := ka.cell (i := 0) rfl
                have s1 := ka.cell (i := 1) rfl
                have s2 := ka.cell (i := 2) rfl
                have t0 := kb.cell (i := 0) rfl
                have t1 := kb.cell (i := 1) rfl
                have t2 := kb.cell (i := 2) rfl
                clear hb
                go_wp2_with fail
                have hcall := Compose_any aw ah ax ca na A hna bw bh bx cb nb B hnb _ (by omega) ((hra.below (Nat.le_refl _) hB).mono hB.size) (by omega) ((hrb.below (Nat.le_refl _) hB).mono hB.size)
                rw [hSK.out] at hcall
                refine hcall.mono ?_
                clear hcall
                rintro e V2 ⟨⟨v, hev, sl, hvl, hrow⟩, hb⟩
                have rK : V2.ownsRow w.heap.size 3 1 sl nk ((K).map (Value.int .i64)) := row_base (row_len (k := (K).length) hlK.out hrow) hB.size
                obtain ⟨srKa, srKc, rfl⟩ := row_slice rK
                have he : e = .returned (.tuple #[.agg #[.int .i64 kw, .int .i64 kh, .slice srKa nk srKc], .int .i64 0]) := by rw [hev, hvl]
                subst he
                clear hrow hev hvl
                clear m0 m1 m2 s0 s1 s2 t0 t1 t2
                replace km := km.below hb km.lt
                replace ka := ka.below hb ka.lt
                replace kb := kb.below hb kb.lt
                replace hB := hB.trans (hb.mono hB.size)
                have m0 := km.cell (i := 0) rfl
                have m1 := km.cell (i := 1) rfl
                have m2 := km.cell (i := 2) rfl
                have s0 := ka.cell (i := 0) rfl
                have s1 := ka.cell (i := 1) rfl
                have s2 := ka.cell (i := 2) rfl
                have t0 := kb.cell (i := 0) rfl
                have t1 := kb.cell (i := 1) rfl
                have t2 := kb.cell (i := 2) rfl
                clear hb
                obtain ⟨V3, hW⟩ : ∃ V3, V2.alloc (.cells #[.int .i64 kw, .int .i64 kh, .slice srKa nk srKc] 64) = V3 := ⟨_, rfl⟩
                obtain ⟨bkK, hbx⟩ : ∃ bkK, V2.heap.size = bkK := ⟨_, rfl⟩
                have kK := Blk.new V2 64 #[.int .i64 kw, .int .i64 kh, .slice srKa nk srKc]
                rw [hW, hbx] at kK
                have hb : Below V2.heap.size V2 V3 := alloc_below hW
                have km' := km.below hb km.lt
                have lkmkK := km.lt
                rw [hbx] at lkmkK
                have ka' := ka.below hb ka.lt
                have lkakK := ka.lt
                rw [hbx] at lkakK
                have kb' := kb.below hb kb.lt
                have lkbkK := kb.lt
                rw [hbx] at lkbkK
                have m0' := km'.cell (i := 0) rfl
                have m1' := km'.cell (i := 1) rfl
                have m2' := km'.cell (i := 2) rfl
                have s0' := ka'.cell (i := 0) rfl
                have s1' := ka'.cell (i := 1) rfl
                have s2' := ka'.cell (i := 2) rfl
                have t0' := kb'.cell (i := 0) rfl
                have t1' := kb'.cell (i := 1) rfl
                have t2' := kb'.cell (i := 2) rfl
                have xk0 := kK.cell (i := 0) rfl
                have xk1 := kK.cell (i := 1) rfl
                have xk2 := kK.cell (i := 2) rfl
                have fxk0 := kK.frozen 0
                have fxk1 := kK.frozen 1
                have fxk2 := kK.frozen 2
                go_wp2_with fail
                clear hW
                clear hbx
                clear m0 m1 m2 s0 s1 s2 t0 t1 t2
                clear m0' m1' m2' s0' s1' s2' t0' t1' t2'
                replace km := km'
                clear km'
                replace ka := ka'
                clear ka'
                replace kb := kb'
                clear kb'
                have m0 := km.cell (i := 0) rfl
                have m1 := km.cell (i := 1) rfl
                have m2 := km.cell (i := 2) rfl
                have s0 := ka.cell (i := 0) rfl
                have s1 := ka.cell (i := 1) rfl
                have s2 := ka.cell (i := 2) rfl
                have t0 := kb.cell (i := 0) rfl
                have t1 := kb.cell (i := 1) rfl
                have t2 := kb.cell (i := 2) rfl
                replace rK := row_below rK hb
                replace hB := hB.trans (hb.mono hB.size)
                clear hb
                have hcall := Compose_any bw bh bx cb nb B hnb aw ah ax ca na A hna _ (by omega) ((hrb.below (Nat.le_refl _) hB).mono hB.size) (by omega) ((hra.below (Nat.le_refl _) hB).mono hB.size)
                rw [hSL.out] at hcall
                refine hcall.mono ?_
                clear hcall
                rintro e V4 ⟨⟨v, hev, sl, hvl, hrow⟩, hb⟩
                have rL : V4.ownsRow w.heap.size 3 1 sl nk ((K).map (Value.int .i64)) := row_base (row_len (k := (K).length) hlK.out hrow) hB.size
                obtain ⟨srLa, srLc, rfl⟩ := row_slice rL
                have he : e = .returned (.tuple #[.agg #[.int .i64 kw, .int .i64 kh, .slice srLa nk srLc], .int .i64 0]) := by rw [hev, hvl]
                subst he
                clear hrow hev hvl
                clear m0 m1 m2 s0 s1 s2 t0 t1 t2 xk0 xk1 xk2 fxk0 fxk1 fxk2
                replace km := km.below hb km.lt
                replace ka := ka.below hb ka.lt
                replace kb := kb.below hb kb.lt
                replace kK := kK.below hb kK.lt
                replace rK := row_below rK hb
                replace hB := hB.trans (hb.mono hB.size)
                have m0 := km.cell (i := 0) rfl
                have m1 := km.cell (i := 1) rfl
                have m2 := km.cell (i := 2) rfl
                have s0 := ka.cell (i := 0) rfl
                have s1 := ka.cell (i := 1) rfl
                have s2 := ka.cell (i := 2) rfl
                have t0 := kb.cell (i := 0) rfl
                have t1 := kb.cell (i := 1) rfl
                have t2 := kb.cell (i := 2) rfl
                have xk0 := kK.cell (i := 0) rfl
                have xk1 := kK.cell (i := 1) rfl
                have xk2 := kK.cell (i := 2) rfl
                have fxk0 := kK.frozen 0
                have fxk1 := kK.frozen 1
                have fxk2 := kK.frozen 2
                clear hb
                obtain ⟨V5, hW⟩ : ∃ V5, V4.alloc (.cells #[.int .i64 kw, .int .i64 kh, .slice srLa nk srLc] 64) = V5 := ⟨_, rfl⟩
                obtain ⟨bkL, hbx⟩ : ∃ bkL, V4.heap.size = bkL := ⟨_, rfl⟩
                have kL := Blk.new V4 64 #[.int .i64 kw, .int .i64 kh, .slice srLa nk srLc]
                rw [hW, hbx] at kL
                have hb : Below V4.heap.size V4 V5 := alloc_below hW
                have km' := km.below hb km.lt
                have lkmkL := km.lt
                rw [hbx] at lkmkL
                have ka' := ka.below hb ka.lt
                have lkakL := ka.lt
                rw [hbx] at lkakL
                have kb' := kb.below hb kb.lt
                have lkbkL := kb.lt
                rw [hbx] at lkbkL
                have kK' := kK.below hb kK.lt
                have lkKkL := kK.lt
                rw [hbx] at lkKkL
                have m0' := km'.cell (i := 0) rfl
                have m1' := km'.cell (i := 1) rfl
                have m2' := km'.cell (i := 2) rfl
                have s0' := ka'.cell (i := 0) rfl
                have s1' := ka'.cell (i := 1) rfl
                have s2' := ka'.cell (i := 2) rfl
                have t0' := kb'.cell (i := 0) rfl
                have t1' := kb'.cell (i := 1) rfl
                have t2' := kb'.cell (i := 2) rfl
                have xk0' := kK'.cell (i := 0) rfl
                have xk1' := kK'.cell (i := 1) rfl
                have xk2' := kK'.cell (i := 2) rfl
                have fxk0' := kK'.frozen 0
                have fxk1' := kK'.frozen 1
                have fxk2' := kK'.frozen 2
                have xl0 := kL.cell (i := 0) rfl
                have xl1 := kL.cell (i := 1) rfl
                have xl2 := kL.cell (i := 2) rfl
                have fxl0 := kL.frozen 0
                have fxl1 := kL.frozen 1
                have fxl2 := kL.frozen 2
                go_wp2_with fail
                clear hW
                clear hbx
                clear m0 m1 m2 s0 s1 s2 t0 t1 t2 xk0 xk1 xk2 fxk0 fxk1 fxk2
                clear m0' m1' m2' s0' s1' s2' t0' t1' t2' xk0' xk1' xk2' fxk0' fxk1' fxk2'
                replace km := km'
                clear km'
                replace ka := ka'
                clear ka'
                replace kb := kb'
                clear kb'
                replace kK := kK'
                clear kK'
                have m0 := km.cell (i := 0) rfl
                have m1 := km.cell (i := 1) rfl
                have m2 := km.cell (i := 2) rfl
                have s0 := ka.cell (i := 0) rfl
                have s1 := ka.cell (i := 1) rfl
                have s2 := ka.cell (i := 2) rfl
                have t0 := kb.cell (i := 0) rfl
                have t1 := kb.cell (i := 1) rfl
                have t2 := kb.cell (i := 2) rfl
                have xk0 := kK.cell (i := 0) rfl
                have xk1 := kK.cell (i := 1) rfl
                have xk2 := kK.cell (i := 2) rfl
                have fxk0 := kK.frozen 0
                have fxk1 := kK.frozen 1
                have fxk2 := kK.frozen 2
                replace rK := row_below rK hb
                replace rL := row_below rL hb
                replace hB := hB.trans (hb.mono hB.size)
                clear hb
                refine (ValidKernel_any aw ah ax ca na A hna _ hka _ (by omega) ((hra.below (Nat.le_refl _) hB).mono hB.size)).mono ?_
                rintro e V6 ⟨rfl, hb⟩
                clear m0 m1 m2 s0 s1 s2 t0 t1 t2 xk0 xk1 xk2 fxk0 fxk1 fxk2 xl0 xl1 xl2 fxl0 fxl1 fxl2
                replace km := km.below hb km.lt
                replace ka := ka.below hb ka.lt
                replace kb := kb.below hb kb.lt
                replace kK := kK.below hb kK.lt
                replace kL := kL.below hb kL.lt
                replace rK := row_below rK hb
                replace rL := row_below rL hb
                replace hB := hB.trans (hb.mono hB.size)
                have m0 := km.cell (i := 0) rfl
                have m1 := km.cell (i := 1) rfl
                have m2 := km.cell (i := 2) rfl
                have s0 := ka.cell (i := 0) rfl
                have s1 := ka.cell (i := 1) rfl
                have s2 := ka.cell (i := 2) rfl
                have t0 := kb.cell (i := 0) rfl
                have t1 := kb.cell (i := 1) rfl
                have t2 := kb.cell (i := 2) rfl
                have xk0 := kK.cell (i := 0) rfl
                have xk1 := kK.cell (i := 1) rfl
                have xk2 := kK.cell (i := 2) rfl
                have fxk0 := kK.frozen 0
                have fxk1 := kK.frozen 1
                have fxk2 := kK.frozen 2
                have xl0 := kL.cell (i := 0) rfl
                have xl1 := kL.cell (i := 1) rfl
                have xl2 := kL.cell (i := 2) rfl
                have fxl0 := kL.frozen 0
                have fxl1 := kL.frozen 1
                have fxl2 := kL.frozen 2
                clear hb
                go_wp2_with fail
                refine (ValidKernel_any bw bh bx cb nb B hnb _ hkb _ (by omega) ((hrb.below (Nat.le_refl _) hB).mono hB.size)).mono ?_
                rintro e V7 ⟨rfl, hb⟩
                clear m0 m1 m2 s0 s1 s2 t0 t1 t2 xk0 xk1 xk2 fxk0 fxk1 fxk2 xl0 xl1 xl2 fxl0 fxl1 fxl2
                replace km := km.below hb km.lt
                replace ka := ka.below hb ka.lt
                replace kb := kb.below hb kb.lt
                replace kK := kK.below hb kK.lt
                replace kL := kL.below hb kL.lt
                replace rK := row_below rK hb
                replace rL := row_below rL hb
                replace hB := hB.trans (hb.mono hB.size)
                have m0 := km.cell (i := 0) rfl
                have m1 := km.cell (i := 1) rfl
                have m2 := km.cell (i := 2) rfl
                have s0 := ka.cell (i := 0) rfl
                have s1 := ka.cell (i := 1) rfl
                have s2 := ka.cell (i := 2) rfl
                have t0 := kb.cell (i := 0) rfl
                have t1 := kb.cell (i := 1) rfl
                have t2 := kb.cell (i := 2) rfl
                have xk0 := kK.cell (i := 0) rfl
                have xk1 := kK.cell (i := 1) rfl
                have xk2 := kK.cell (i := 2) rfl
                have fxk0 := kK.frozen 0
                have fxk1 := kK.frozen 1
                have fxk2 := kK.frozen 2
                have xl0 := kL.cell (i := 0) rfl
                have xl1 := kL.cell (i := 1) rfl
                have xl2 := kL.cell (i := 2) rfl
                have fxl0 := kL.frozen 0
                have fxl1 := kL.frozen 1
                have fxl2 := kL.frozen 2
                clear hb
                go_wp2_with fail
                refine (SameInts_eq srKa srLa srKc srLc nk K hlK _ (by omega) (row_rd' hlK.out rK) (row_rd' hlK.out rL)).mono ?_
                rintro e V8 ⟨rfl, hb⟩
                clear m0 m1 m2 s0 s1 s2 t0 t1 t2 xk0 xk1 xk2 fxk0 fxk1 fxk2 xl0 xl1 xl2 fxl0 fxl1 fxl2
                replace km := km.below hb km.lt
                replace ka := ka.below hb ka.lt
                replace kb := kb.below hb kb.lt
                replace kK := kK.below hb kK.lt
                replace kL := kL.below hb kL.lt
                replace rK := row_below rK hb
                replace rL := row_below rL hb
                replace hB := hB.trans (hb.mono hB.size)
                have m0 := km.cell (i := 0) rfl
                have m1 := km.cell (i := 1) rfl
                have m2 := km.cell (i := 2) rfl
                have s0 := ka.cell (i := 0) rfl
                have s1 := ka.cell (i := 1) rfl
                have s2 := ka.cell (i := 2) rfl
                have t0 := kb.cell (i := 0) rfl
                have t1 := kb.cell (i := 1) rfl
                have t2 := kb.cell (i := 2) rfl
                have xk0 := kK.cell (i := 0) rfl
                have xk1 := kK.cell (i := 1) rfl
                have xk2 := kK.cell (i := 2) rfl
                have fxk0 := kK.frozen 0
                have fxk1 := kK.frozen 1
                have fxk2 := kK.frozen 2
                have xl0 := kL.cell (i := 0) rfl
                have xl1 := kL.cell (i := 1) rfl
                have xl2 := kL.cell (i := 2) rfl
                have fxl0 := kL.frozen 0
                have fxl1 := kL.frozen 1
                have fxl2 := kL.frozen 2
                clear hb
                go_wp2_with fail
                refine (Valid_any pw ph a c xs n hn _ (by omega) ((hr.below (Nat.le_refl _) hB).mono hB.size)).mono ?_
                rintro e V28 ⟨rfl, hb⟩
                rw [hzv.out]
                clear m0 m1 m2 s0 s1 s2 t0 t1 t2 xk0 xk1 xk2 fxk0 fxk1 fxk2 xl0 xl1 xl2 fxl0 fxl1 fxl2
                replace km := km.below hb km.lt
                replace ka := ka.below hb ka.lt
                replace kb := kb.below hb kb.lt
                replace kK := kK.below hb kK.lt
                replace kL := kL.below hb kL.lt
                replace rK := row_below rK hb
                replace rL := row_below rL hb
                replace hB := hB.trans (hb.mono hB.size)
                have m0 := km.cell (i := 0) rfl
                have m1 := km.cell (i := 1) rfl
                have m2 := km.cell (i := 2) rfl
                have s0 := ka.cell (i := 0) rfl
                have s1 := ka.cell (i := 1) rfl
                have s2 := ka.cell (i := 2) rfl
                have t0 := kb.cell (i := 0) rfl
                have t1 := kb.cell (i := 1) rfl
                have t2 := kb.cell (i := 2) rfl
                have xk0 := kK.cell (i := 0) rfl
                have xk1 := kK.cell (i := 1) rfl
                have xk2 := kK.cell (i := 2) rfl
                have fxk0 := kK.frozen 0
                have fxk1 := kK.frozen 1
                have fxk2 := kK.frozen 2
                have xl0 := kL.cell (i := 0) rfl
                have xl1 := kL.cell (i := 1) rfl
                have xl2 := kL.cell (i := 2) rfl
                have fxl0 := kL.frozen 0
                have fxl1 := kL.frozen 1
                have fxl2 := kL.frozen 2
                clear hb
                go_wp2_with fail
                refine (modest_any pw ph a c n xs hn 1000 (by decide) (by decide) _ hmo hn0 _ (by omega) ((hr.below (Nat.le_refl _) hB).mono hB.size)).mono ?_
                rintro e V9 ⟨rfl, hb⟩
                clear m0 m1 m2 s0 s1 s2 t0 t1 t2 xk0 xk1 xk2 fxk0 fxk1 fxk2 xl0 xl1 xl2 fxl0 fxl1 fxl2
                replace km := km.below hb km.lt
                replace ka := ka.below hb ka.lt
                replace kb := kb.below hb kb.lt
                replace kK := kK.below hb kK.lt
                replace kL := kL.below hb kL.lt
                replace rK := row_below rK hb
                replace rL := row_below rL hb
                replace hB := hB.trans (hb.mono hB.size)
                have m0 := km.cell (i := 0) rfl
                have m1 := km.cell (i := 1) rfl
                have m2 := km.cell (i := 2) rfl
                have s0 := ka.cell (i := 0) rfl
                have s1 := ka.cell (i := 1) rfl
                have s2 := ka.cell (i := 2) rfl
                have t0 := kb.cell (i := 0) rfl
                have t1 := kb.cell (i := 1) rfl
                have t2 := kb.cell (i := 2) rfl
                have xk0 := kK.cell (i := 0) rfl
                have xk1 := kK.cell (i := 1) rfl
                have xk2 := kK.cell (i := 2) rfl
                have fxk0 := kK.frozen 0
                have fxk1 := kK.frozen 1
                have fxk2 := kK.frozen 2
                have xl0 := kL.cell (i := 0) rfl
                have xl1 := kL.cell (i := 1) rfl
                have xl2 := kL.cell (i := 2) rfl
                have fxl0 := kL.frozen 0
                have fxl1 := kL.frozen 1
                have fxl2 := kL.frozen 2
                clear hb
                go_wp2_with fail
                refine (small_any aw ah ax ca na A hna 50 (by decide) (by decide) _ hsa hna0 _ (by omega) ((hra.below (Nat.le_refl _) hB).mono hB.size)).mono ?_
                rintro e V10 ⟨rfl, hb⟩
                clear m0 m1 m2 s0 s1 s2 t0 t1 t2 xk0 xk1 xk2 fxk0 fxk1 fxk2 xl0 xl1 xl2 fxl0 fxl1 fxl2
                replace km := km.below hb km.lt
                replace ka := ka.below hb ka.lt
                replace kb := kb.below hb kb.lt
                replace kK := kK.below hb kK.lt
                replace kL := kL.below hb kL.lt
                replace rK := row_below rK hb
                replace rL := row_below rL hb
                replace hB := hB.trans (hb.mono hB.size)
                have m0 := km.cell (i := 0) rfl
                have m1 := km.cell (i := 1) rfl
                have m2 := km.cell (i := 2) rfl
                have s0 := ka.cell (i := 0) rfl
                have s1 := ka.cell (i := 1) rfl
                have s2 := ka.cell (i := 2) rfl
                have t0 := kb.cell (i := 0) rfl
                have t1 := kb.cell (i := 1) rfl
                have t2 := kb.cell (i := 2) rfl
                have xk0 := kK.cell (i := 0) rfl
                have xk1 := kK.cell (i := 1) rfl
                have xk2 := kK.cell (i := 2) rfl
                have fxk0 := kK.frozen 0
                have fxk1 := kK.frozen 1
                have fxk2 := kK.frozen 2
                have xl0 := kL.cell (i := 0) rfl
                have xl1 := kL.cell (i := 1) rfl
                have xl2 := kL.cell (i := 2) rfl
                have fxl0 := kL.frozen 0
                have fxl1 := kL.frozen 1
                have fxl2 := kL.frozen 2
                clear hb
                go_wp2_with fail
                refine (small_any bw bh bx cb nb B hnb 50 (by decide) (by decide) _ hsb hnb0 _ (by omega) ((hrb.below (Nat.le_refl _) hB).mono hB.size)).mono ?_
                rintro e V11 ⟨rfl, hb⟩
                clear m0 m1 m2 s0 s1 s2 t0 t1 t2 xk0 xk1 xk2 fxk0 fxk1 fxk2 xl0 xl1 xl2 fxl0 fxl1 fxl2
                replace km := km.below hb km.lt
                replace ka := ka.below hb ka.lt
                replace kb := kb.below hb kb.lt
                replace kK := kK.below hb kK.lt
                replace kL := kL.below hb kL.lt
                replace rK := row_below rK hb
                replace rL := row_below rL hb
                replace hB := hB.trans (hb.mono hB.size)
                have m0 := km.cell (i := 0) rfl
                have m1 := km.cell (i := 1) rfl
                have m2 := km.cell (i := 2) rfl
                have s0 := ka.cell (i := 0) rfl
                have s1 := ka.cell (i := 1) rfl
                have s2 := ka.cell (i := 2) rfl
                have t0 := kb.cell (i := 0) rfl
                have t1 := kb.cell (i := 1) rfl
                have t2 := kb.cell (i := 2) rfl
                have xk0 := kK.cell (i := 0) rfl
                have xk1 := kK.cell (i := 1) rfl
                have xk2 := kK.cell (i := 2) rfl
                have fxk0 := kK.frozen 0
                have fxk1 := kK.frozen 1
                have fxk2 := kK.frozen 2
                have xl0 := kL.cell (i := 0) rfl
                have xl1 := kL.cell (i := 1) rfl
                have xl2 := kL.cell (i := 2) rfl
                have fxl0 := kL.frozen 0
                have fxl1 := kL.frozen 1
                have fxl2 := kL.frozen 2
                clear hb
                go_wp2_with fail
                have hcall := Convolve_any pw ph a c n xs hn aw ah ax ca na A hna 3 (by decide) (by decide) _ (by omega) ((hr.below (Nat.le_refl _) hB).mono hB.size) (by omega) ((hra.below (Nat.le_refl _) hB).mono hB.size)
                rw [hSX.out] at hcall
                refine hcall.mono ?_
                clear hcall
                rintro e V12 ⟨⟨v, hev, sl, hvl, hrow⟩, hb⟩
                have rX : V12.ownsRow w.heap.size 3 1 sl n ((X).map (Value.int .i64)) := row_base (row_len (k := (X).length) hlX.out hrow) hB.size
                obtain ⟨srXa, srXc, rfl⟩ := row_slice rX
                have he : e = .returned (.tuple #[.agg #[.int .i64 pw, .int .i64 ph, .slice srXa n srXc], .int .i64 0]) := by rw [hev, hvl]
                subst he
                clear hrow hev hvl
                clear m0 m1 m2 s0 s1 s2 t0 t1 t2 xk0 xk1 xk2 fxk0 fxk1 fxk2 xl0 xl1 xl2 fxl0 fxl1 fxl2
                replace km := km.below hb km.lt
                replace ka := ka.below hb ka.lt
                replace kb := kb.below hb kb.lt
                replace kK := kK.below hb kK.lt
                replace kL := kL.below hb kL.lt
                replace rK := row_below rK hb
                replace rL := row_below rL hb
                replace hB := hB.trans (hb.mono hB.size)
                have m0 := km.cell (i := 0) rfl
                have m1 := km.cell (i := 1) rfl
                have m2 := km.cell (i := 2) rfl
                have s0 := ka.cell (i := 0) rfl
                have s1 := ka.cell (i := 1) rfl
                have s2 := ka.cell (i := 2) rfl
                have t0 := kb.cell (i := 0) rfl
                have t1 := kb.cell (i := 1) rfl
                have t2 := kb.cell (i := 2) rfl
                have xk0 := kK.cell (i := 0) rfl
                have xk1 := kK.cell (i := 1) rfl
                have xk2 := kK.cell (i := 2) rfl
                have fxk0 := kK.frozen 0
                have fxk1 := kK.frozen 1
                have fxk2 := kK.frozen 2
                have xl0 := kL.cell (i := 0) rfl
                have xl1 := kL.cell (i := 1) rfl
                have xl2 := kL.cell (i := 2) rfl
                have fxl0 := kL.frozen 0
                have fxl1 := kL.frozen 1
                have fxl2 := kL.frozen 2
                clear hb
                obtain ⟨V13, hW⟩ : ∃ V13, V12.alloc (.cells #[.int .i64 pw, .int .i64 ph, .slice srXa n srXc] 24) = V13 := ⟨_, rfl⟩
                obtain ⟨bkX, hbx⟩ : ∃ bkX, V12.heap.size = bkX := ⟨_, rfl⟩
                have kX := Blk.new V12 24 #[.int .i64 pw, .int .i64 ph, .slice srXa n srXc]
                rw [hW, hbx] at kX
                have hb : Below V12.heap.size V12 V13 := alloc_below hW
                have km' := km.below hb km.lt
                have lkmkX := km.lt
                rw [hbx] at lkmkX
                have ka' := ka.below hb ka.lt
                have lkakX := ka.lt
                rw [hbx] at lkakX
                have kb' := kb.below hb kb.lt
                have lkbkX := kb.lt
                rw [hbx] at lkbkX
                have kK' := kK.below hb kK.lt
                have lkKkX := kK.lt
                rw [hbx] at lkKkX
                have kL' := kL.below hb kL.lt
                have lkLkX := kL.lt
                rw [hbx] at lkLkX
                have m0' := km'.cell (i := 0) rfl
                have m1' := km'.cell (i := 1) rfl
                have m2' := km'.cell (i := 2) rfl
                have s0' := ka'.cell (i := 0) rfl
                have s1' := ka'.cell (i := 1) rfl
                have s2' := ka'.cell (i := 2) rfl
                have t0' := kb'.cell (i := 0) rfl
                have t1' := kb'.cell (i := 1) rfl
                have t2' := kb'.cell (i := 2) rfl
                have xk0' := kK'.cell (i := 0) rfl
                have xk1' := kK'.cell (i := 1) rfl
                have xk2' := kK'.cell (i := 2) rfl
                have fxk0' := kK'.frozen 0
                have fxk1' := kK'.frozen 1
                have fxk2' := kK'.frozen 2
                have xl0' := kL'.cell (i := 0) rfl
                have xl1' := kL'.cell (i := 1) rfl
                have xl2' := kL'.cell (i := 2) rfl
                have fxl0' := kL'.frozen 0
                have fxl1' := kL'.frozen 1
                have fxl2' := kL'.frozen 2
                have xx0 := kX.cell (i := 0) rfl
                have xx1 := kX.cell (i := 1) rfl
                have xx2 := kX.cell (i := 2) rfl
                have fxx0 := kX.frozen 0
                have fxx1 := kX.frozen 1
                have fxx2 := kX.frozen 2
                go_wp2_with fail
                clear hW
                clear hbx
                clear m0 m1 m2 s0 s1 s2 t0 t1 t2 xk0 xk1 xk2 fxk0 fxk1 fxk2 xl0 xl1 xl2 fxl0 fxl1 fxl2
                clear m0' m1' m2' s0' s1' s2' t0' t1' t2' xk0' xk1' xk2' fxk0' fxk1' fxk2' xl0' xl1' xl2' fxl0' fxl1' fxl2'
                replace km := km'
                clear km'
                replace ka := ka'
                clear ka'
                replace kb := kb'
                clear kb'
                replace kK := kK'
                clear kK'
                replace kL := kL'
                clear kL'
                have m0 := km.cell (i := 0) rfl
                have m1 := km.cell (i := 1) rfl
                have m2 := km.cell (i := 2) rfl
                have s0 := ka.cell (i := 0) rfl
                have s1 := ka.cell (i := 1) rfl
                have s2 := ka.cell (i := 2) rfl
                have t0 := kb.cell (i := 0) rfl
                have t1 := kb.cell (i := 1) rfl
                have t2 := kb.cell (i := 2) rfl
                have xk0 := kK.cell (i := 0) rfl
                have xk1 := kK.cell (i := 1) rfl
                have xk2 := kK.cell (i := 2) rfl
                have fxk0 := kK.frozen 0
                have fxk1 := kK.frozen 1
                have fxk2 := kK.frozen 2
                have xl0 := kL.cell (i := 0) rfl
                have xl1 := kL.cell (i := 1) rfl
                have xl2 := kL.cell (i := 2) rfl
                have fxl0 := kL.frozen 0
                have fxl1 := kL.frozen 1
                have fxl2 := kL.frozen 2
                replace rK := row_below rK hb
                replace rL := row_below rL hb
                replace rX := row_below rX hb
                replace hB := hB.trans (hb.mono hB.size)
                clear hb
                have hcall := Convolve_any pw ph srXa srXc n X hlX bw bh bx cb nb B hnb 3 (by decide) (by decide) _ (by omega) (row_rd' hlX.out rX) (by omega) ((hrb.below (Nat.le_refl _) hB).mono hB.size)
                rw [hSY.out] at hcall
                refine hcall.mono ?_
                clear hcall
                rintro e V14 ⟨⟨v, hev, sl, hvl, hrow⟩, hb⟩
                have rY : V14.ownsRow w.heap.size 3 1 sl n ((Y).map (Value.int .i64)) := row_base (row_len (k := (Y).length) hlY.out hrow) hB.size
                obtain ⟨srYa, srYc, rfl⟩ := row_slice rY
                have he : e = .returned (.tuple #[.agg #[.int .i64 pw, .int .i64 ph, .slice srYa n srYc], .int .i64 0]) := by rw [hev, hvl]
                subst he
                clear hrow hev hvl
                clear m0 m1 m2 s0 s1 s2 t0 t1 t2 xk0 xk1 xk2 fxk0 fxk1 fxk2 xl0 xl1 xl2 fxl0 fxl1 fxl2 xx0 xx1 xx2 fxx0 fxx1 fxx2
                replace km := km.below hb km.lt
                replace ka := ka.below hb ka.lt
                replace kb := kb.below hb kb.lt
                replace kK := kK.below hb kK.lt
                replace kL := kL.below hb kL.lt
                replace kX := kX.below hb kX.lt
                replace rK := row_below rK hb
                replace rL := row_below rL hb
                replace rX := row_below rX hb
                replace hB := hB.trans (hb.mono hB.size)
                have m0 := km.cell (i := 0) rfl
                have m1 := km.cell (i := 1) rfl
                have m2 := km.cell (i := 2) rfl
                have s0 := ka.cell (i := 0) rfl
                have s1 := ka.cell (i := 1) rfl
                have s2 := ka.cell (i := 2) rfl
                have t0 := kb.cell (i := 0) rfl
                have t1 := kb.cell (i := 1) rfl
                have t2 := kb.cell (i := 2) rfl
                have xk0 := kK.cell (i := 0) rfl
                have xk1 := kK.cell (i := 1) rfl
                have xk2 := kK.cell (i := 2) rfl
                have fxk0 := kK.frozen 0
                have fxk1 := kK.frozen 1
                have fxk2 := kK.frozen 2
                have xl0 := kL.cell (i := 0) rfl
                have xl1 := kL.cell (i := 1) rfl
                have xl2 := kL.cell (i := 2) rfl
                have fxl0 := kL.frozen 0
                have fxl1 := kL.frozen 1
                have fxl2 := kL.frozen 2
                have xx0 := kX.cell (i := 0) rfl
                have xx1 := kX.cell (i := 1) rfl
                have xx2 := kX.cell (i := 2) rfl
                have fxx0 := kX.frozen 0
                have fxx1 := kX.frozen 1
                have fxx2 := kX.frozen 2
                clear hb
                obtain ⟨V15, hW⟩ : ∃ V15, V14.alloc (.cells #[.int .i64 pw, .int .i64 ph, .slice srYa n srYc] 24) = V15 := ⟨_, rfl⟩
                obtain ⟨bkY, hbx⟩ : ∃ bkY, V14.heap.size = bkY := ⟨_, rfl⟩
                have kY := Blk.new V14 24 #[.int .i64 pw, .int .i64 ph, .slice srYa n srYc]
                rw [hW, hbx] at kY
                have hb : Below V14.heap.size V14 V15 := alloc_below hW
                have km' := km.below hb km.lt
                have lkmkY := km.lt
                rw [hbx] at lkmkY
                have ka' := ka.below hb ka.lt
                have lkakY := ka.lt
                rw [hbx] at lkakY
                have kb' := kb.below hb kb.lt
                have lkbkY := kb.lt
                rw [hbx] at lkbkY
                have kK' := kK.below hb kK.lt
                have lkKkY := kK.lt
                rw [hbx] at lkKkY
                have kL' := kL.below hb kL.lt
                have lkLkY := kL.lt
                rw [hbx] at lkLkY
                have kX' := kX.below hb kX.lt
                have lkXkY := kX.lt
                rw [hbx] at lkXkY
                have m0' := km'.cell (i := 0) rfl
                have m1' := km'.cell (i := 1) rfl
                have m2' := km'.cell (i := 2) rfl
                have s0' := ka'.cell (i := 0) rfl
                have s1' := ka'.cell (i := 1) rfl
                have s2' := ka'.cell (i := 2) rfl
                have t0' := kb'.cell (i := 0) rfl
                have t1' := kb'.cell (i := 1) rfl
                have t2' := kb'.cell (i := 2) rfl
                have xk0' := kK'.cell (i := 0) rfl
                have xk1' := kK'.cell (i := 1) rfl
                have xk2' := kK'.cell (i := 2) rfl
                have fxk0' := kK'.frozen 0
                have fxk1' := kK'.frozen 1
                have fxk2' := kK'.frozen 2
                have xl0' := kL'.cell (i := 0) rfl
                have xl1' := kL'.cell (i := 1) rfl
                have xl2' := kL'.cell (i := 2) rfl
                have fxl0' := kL'.frozen 0
                have fxl1' := kL'.frozen 1
                have fxl2' := kL'.frozen 2
                have xx0' := kX'.cell (i := 0) rfl
                have xx1' := kX'.cell (i := 1) rfl
                have xx2' := kX'.cell (i := 2) rfl
                have fxx0' := kX'.frozen 0
                have fxx1' := kX'.frozen 1
                have fxx2' := kX'.frozen 2
                have xy0 := kY.cell (i := 0) rfl
                have xy1 := kY.cell (i := 1) rfl
                have xy2 := kY.cell (i := 2) rfl
                have fxy0 := kY.frozen 0
                have fxy1 := kY.frozen 1
                have fxy2 := kY.frozen 2
                go_wp2_with fail
                clear hW
                clear hbx
                clear m0 m1 m2 s0 s1 s2 t0 t1 t2 xk0 xk1 xk2 fxk0 fxk1 fxk2 xl0 xl1 xl2 fxl0 fxl1 fxl2 xx0 xx1 xx2 fxx0 fxx1 fxx2
                clear m0' m1' m2' s0' s1' s2' t0' t1' t2' xk0' xk1' xk2' fxk0' fxk1' fxk2' xl0' xl1' xl2' fxl0' fxl1' fxl2' xx0' xx1' xx2' fxx0' fxx1' fxx2'
                replace km := km'
                clear km'
                replace ka := ka'
                clear ka'
                replace kb := kb'
                clear kb'
                replace kK := kK'
                clear kK'
                replace kL := kL'
                clear kL'
                replace kX := kX'
                clear kX'
                have m0 := km.cell (i := 0) rfl
                have m1 := km.cell (i := 1) rfl
                have m2 := km.cell (i := 2) rfl
                have s0 := ka.cell (i := 0) rfl
                have s1 := ka.cell (i := 1) rfl
                have s2 := ka.cell (i := 2) rfl
                have t0 := kb.cell (i := 0) rfl
                have t1 := kb.cell (i := 1) rfl
                have t2 := kb.cell (i := 2) rfl
                have xk0 := kK.cell (i := 0) rfl
                have xk1 := kK.cell (i := 1) rfl
                have xk2 := kK.cell (i := 2) rfl
                have fxk0 := kK.frozen 0
                have fxk1 := kK.frozen 1
                have fxk2 := kK.frozen 2
                have xl0 := kL.cell (i := 0) rfl
                have xl1 := kL.cell (i := 1) rfl
                have xl2 := kL.cell (i := 2) rfl
                have fxl0 := kL.frozen 0
                have fxl1 := kL.frozen 1
                have fxl2 := kL.frozen 2
                have xx0 := kX.cell (i := 0) rfl
                have xx1 := kX.cell (i := 1) rfl
                have xx2 := kX.cell (i := 2) rfl
                have fxx0 := kX.frozen 0
                have fxx1 := kX.frozen 1
                have fxx2 := kX.frozen 2
                replace rK := row_below rK hb
                replace rL := row_below rL hb
                replace rX := row_below rX hb
                replace rY := row_below rY hb
                replace hB := hB.trans (hb.mono hB.size)
                clear hb
                have hcall := Convolve_any pw ph a c n xs hn kw kh srKa srKc nk K hlK 3 (by decide) (by decide) _ (by omega) ((hr.below (Nat.le_refl _) hB).mono hB.size) (by omega) (row_rd' hlK.out rK)
                rw [hSZ.out] at hcall
                refine hcall.mono ?_
                clear hcall
                rintro e V16 ⟨⟨v, hev, sl, hvl, hrow⟩, hb⟩
                have rZ : V16.ownsRow w.heap.size 3 1 sl n ((Y).map (Value.int .i64)) := row_base (row_len (k := (Y).length) hlY.out hrow) hB.size
                obtain ⟨srZa, srZc, rfl⟩ := row_slice rZ
                have he : e = .returned (.tuple #[.agg #[.int .i64 pw, .int .i64 ph, .slice srZa n srZc], .int .i64 0]) := by rw [hev, hvl]
                subst he
                clear hrow hev hvl
                clear m0 m1 m2 s0 s1 s2 t0 t1 t2 xk0 xk1 xk2 fxk0 fxk1 fxk2 xl0 xl1 xl2 fxl0 fxl1 fxl2 xx0 xx1 xx2 fxx0 fxx1 fxx2 xy0 xy1 xy2 fxy0 fxy1 fxy2
                replace km := km.below hb km.lt
                replace ka := ka.below hb ka.lt
                replace kb := kb.below hb kb.lt
                replace kK := kK.below hb kK.lt
                replace kL := kL.below hb kL.lt
                replace kX := kX.below hb kX.lt
                replace kY := kY.below hb kY.lt
                replace rK := row_below rK hb
                replace rL := row_below rL hb
                replace rX := row_below rX hb
                replace rY := row_below rY hb
                replace hB := hB.trans (hb.mono hB.size)
                have m0 := km.cell (i := 0) rfl
                have m1 := km.cell (i := 1) rfl
                have m2 := km.cell (i := 2) rfl
                have s0 := ka.cell (i := 0) rfl
                have s1 := ka.cell (i := 1) rfl
                have s2 := ka.cell (i := 2) rfl
                have t0 := kb.cell (i := 0) rfl
                have t1 := kb.cell (i := 1) rfl
                have t2 := kb.cell (i := 2) rfl
                have xk0 := kK.cell (i := 0) rfl
                have xk1 := kK.cell (i := 1) rfl
                have xk2 := kK.cell (i := 2) rfl
                have fxk0 := kK.frozen 0
                have fxk1 := kK.frozen 1
                have fxk2 := kK.frozen 2
                have xl0 := kL.cell (i := 0) rfl
                have xl1 := kL.cell (i := 1) rfl
                have xl2 := kL.cell (i := 2) rfl
                have fxl0 := kL.frozen 0
                have fxl1 := kL.frozen 1
                have fxl2 := kL.frozen 2
                have xx0 := kX.cell (i := 0) rfl
                have xx1 := kX.cell (i := 1) rfl
                have xx2 := kX.cell (i := 2) rfl
                have fxx0 := kX.frozen 0
                have fxx1 := kX.frozen 1
                have fxx2 := kX.frozen 2
                have xy0 := kY.cell (i := 0) rfl
                have xy1 := kY.cell (i := 1) rfl
                have xy2 := kY.cell (i := 2) rfl
                have fxy0 := kY.frozen 0
                have fxy1 := kY.frozen 1
                have fxy2 := kY.frozen 2
                clear hb
                obtain ⟨V17, hW⟩ : ∃ V17, V16.alloc (.cells #[.int .i64 pw, .int .i64 ph, .slice srZa n srZc] 24) = V17 := ⟨_, rfl⟩
                obtain ⟨bkZ, hbx⟩ : ∃ bkZ, V16.heap.size = bkZ := ⟨_, rfl⟩
                have kZ := Blk.new V16 24 #[.int .i64 pw, .int .i64 ph, .slice srZa n srZc]
                rw [hW, hbx] at kZ
                have hb : Below V16.heap.size V16 V17 := alloc_below hW
                have km' := km.below hb km.lt
                have lkmkZ := km.lt
                rw [hbx] at lkmkZ
                have ka' := ka.below hb ka.lt
                have lkakZ := ka.lt
                rw [hbx] at lkakZ
                have kb' := kb.below hb kb.lt
                have lkbkZ := kb.lt
                rw [hbx] at lkbkZ
                have kK' := kK.below hb kK.lt
                have lkKkZ := kK.lt
                rw [hbx] at lkKkZ
                have kL' := kL.below hb kL.lt
                have lkLkZ := kL.lt
                rw [hbx] at lkLkZ
                have kX' := kX.below hb kX.lt
                have lkXkZ := kX.lt
                rw [hbx] at lkXkZ
                have kY' := kY.below hb kY.lt
                have lkYkZ := kY.lt
                rw [hbx] at lkYkZ
                have m0' := km'.cell (i := 0) rfl
                have m1' := km'.cell (i := 1) rfl
                have m2' := km'.cell (i := 2) rfl
                have s0' := ka'.cell (i := 0) rfl
                have s1' := ka'.cell (i := 1) rfl
                have s2' := ka'.cell (i := 2) rfl
                have t0' := kb'.cell (i := 0) rfl
                have t1' := kb'.cell (i := 1) rfl
                have t2' := kb'.cell (i := 2) rfl
                have xk0' := kK'.cell (i := 0) rfl
                have xk1' := kK'.cell (i := 1) rfl
                have xk2' := kK'.cell (i := 2) rfl
                have fxk0' := kK'.frozen 0
                have fxk1' := kK'.frozen 1
                have fxk2' := kK'.frozen 2
                have xl0' := kL'.cell (i := 0) rfl
                have xl1' := kL'.cell (i := 1) rfl
                have xl2' := kL'.cell (i := 2) rfl
                have fxl0' := kL'.frozen 0
                have fxl1' := kL'.frozen 1
                have fxl2' := kL'.frozen 2
                have xx0' := kX'.cell (i := 0) rfl
                have xx1' := kX'.cell (i := 1) rfl
                have xx2' := kX'.cell (i := 2) rfl
                have fxx0' := kX'.frozen 0
                have fxx1' := kX'.frozen 1
                have fxx2' := kX'.frozen 2
                have xy0' := kY'.cell (i := 0) rfl
                have xy1' := kY'.cell (i := 1) rfl
                have xy2' := kY'.cell (i := 2) rfl
                have fxy0' := kY'.frozen 0
                have fxy1' := kY'.frozen 1
                have fxy2' := kY'.frozen 2
                have xz0 := kZ.cell (i := 0) rfl
                have xz1 := kZ.cell (i := 1) rfl
                have xz2 := kZ.cell (i := 2) rfl
                have fxz0 := kZ.frozen 0
                have fxz1 := kZ.frozen 1
                have fxz2 := kZ.frozen 2
                go_wp2_with fail
                clear hW
                clear hbx
                clear m0 m1 m2 s0 s1 s2 t0 t1 t2 xk0 xk1 xk2 fxk0 fxk1 fxk2 xl0 xl1 xl2 fxl0 fxl1 fxl2 xx0 xx1 xx2 fxx0 fxx1 fxx2 xy0 xy1 xy2 fxy0 fxy1 fxy2
                clear m0' m1' m2' s0' s1' s2' t0' t1' t2' xk0' xk1' xk2' fxk0' fxk1' fxk2' xl0' xl1' xl2' fxl0' fxl1' fxl2' xx0' xx1' xx2' fxx0' fxx1' fxx2' xy0' xy1' xy2' fxy0' fxy1' fxy2'
                replace km := km'
                clear km'
                replace ka := ka'
                clear ka'
                replace kb := kb'
                clear kb'
                replace kK := kK'
                clear kK'
                replace kL := kL'
                clear kL'
                replace kX := kX'
                clear kX'
                replace kY := kY'
                clear kY'
                have m0 := km.cell (i := 0) rfl
                have m1 := km.cell (i := 1) rfl
                have m2 := km.cell (i := 2) rfl
                have s0 := ka.cell (i := 0) rfl
                have s1 := ka.cell (i := 1) rfl
                have s2 := ka.cell (i := 2) rfl
                have t0 := kb.cell (i := 0) rfl
                have t1 := kb.cell (i := 1) rfl
                have t2 := kb.cell (i := 2) rfl
                have xk0 := kK.cell (i := 0) rfl
                have xk1 := kK.cell (i := 1) rfl
                have xk2 := kK.cell (i := 2) rfl
                have fxk0 := kK.frozen 0
                have fxk1 := kK.frozen 1
                have fxk2 := kK.frozen 2
                have xl0 := kL.cell (i := 0) rfl
                have xl1 := kL.cell (i := 1) rfl
                have xl2 := kL.cell (i := 2) rfl
                have fxl0 := kL.frozen 0
                have fxl1 := kL.frozen 1
                have fxl2 := kL.frozen 2
                have xx0 := kX.cell (i := 0) rfl
                have xx1 := kX.cell (i := 1) rfl
                have xx2 := kX.cell (i := 2) rfl
                have fxx0 := kX.frozen 0
                have fxx1 := kX.frozen 1
                have fxx2 := kX.frozen 2
                have xy0 := kY.cell (i := 0) rfl
                have xy1 := kY.cell (i := 1) rfl
                have xy2 := kY.cell (i := 2) rfl
                have fxy0 := kY.frozen 0
                have fxy1 := kY.frozen 1
                have fxy2 := kY.frozen 2
                replace rK := row_below rK hb
                replace rL := row_below rL hb
                replace rX := row_below rX hb
                replace rY := row_below rY hb
                replace rZ := row_below rZ hb
                replace hB := hB.trans (hb.mono hB.size)
                clear hb
                refine (Same_eq pw ph srYa srZa srYc srZc n Y hlY _ (by omega) (row_rd' hlY.out rY) (row_rd' hlY.out rZ)).mono ?_
                rintro e V18 ⟨rfl, hb⟩
                clear m0 m1 m2 s0 s1 s2 t0 t1 t2 xk0 xk1 xk2 fxk0 fxk1 fxk2 xl0 xl1 xl2 fxl0 fxl1 fxl2 xx0 xx1 xx2 fxx0 fxx1 fxx2 xy0 xy1 xy2 fxy0 fxy1 fxy2 xz0 xz1 xz2 fxz0 fxz1 fxz2
                replace km := km.below hb km.lt
                replace ka := ka.below hb ka.lt
                replace kb := kb.below hb kb.lt
                replace kK := kK.below hb kK.lt
                replace kL := kL.below hb kL.lt
                replace kX := kX.below hb kX.lt
                replace kY := kY.below hb kY.lt
                replace kZ := kZ.below hb kZ.lt
                replace rK := row_below rK hb
                replace rL := row_below rL hb
                replace rX := row_below rX hb
                replace rY := row_below rY hb
                replace rZ := row_below rZ hb
                replace hB := hB.trans (hb.mono hB.size)
                have m0 := km.cell (i := 0) rfl
                have m1 := km.cell (i := 1) rfl
                have m2 := km.cell (i := 2) rfl
                have s0 := ka.cell (i := 0) rfl
                have s1 := ka.cell (i := 1) rfl
                have s2 := ka.cell (i := 2) rfl
                have t0 := kb.cell (i := 0) rfl
                have t1 := kb.cell (i := 1) rfl
                have t2 := kb.cell (i := 2) rfl
                have xk0 := kK.cell (i := 0) rfl
                have xk1 := kK.cell (i := 1) rfl
                have xk2 := kK.cell (i := 2) rfl
                have fxk0 := kK.frozen 0
                have fxk1 := kK.frozen 1
                have fxk2 := kK.frozen 2
                have xl0 := kL.cell (i := 0) rfl
                have xl1 := kL.cell (i := 1) rfl
                have xl2 := kL.cell (i := 2) rfl
                have fxl0 := kL.frozen 0
                have fxl1 := kL.frozen 1
                have fxl2 := kL.frozen 2
                have xx0 := kX.cell (i := 0) rfl
                have xx1 := kX.cell (i := 1) rfl
                have xx2 := kX.cell (i := 2) rfl
                have fxx0 := kX.frozen 0
                have fxx1 := kX.frozen 1
                have fxx2 := kX.frozen 2
                have xy0 := kY.cell (i := 0) rfl
                have xy1 := kY.cell (i := 1) rfl
                have xy2 := kY.cell (i := 2) rfl
                have fxy0 := kY.frozen 0
                have fxy1 := kY.frozen 1
                have fxy2 := kY.frozen 2
                have xz0 := kZ.cell (i := 0) rfl
                have xz1 := kZ.cell (i := 1) rfl
                have xz2 := kZ.cell (i := 2) rfl
                have fxz0 := kZ.frozen 0
                have fxz1 := kZ.frozen 1
                have fxz2 := kZ.frozen 2
                clear hb
                go_wp2_with fail
                go_ret
                exact ⟨rfl, hB⟩
      · have hSK := Lib.hid (compS_big (show (kernOk aw ah A && kernOk bw bh B) = true by rw [hka.out, hkb.out]; rfl) hsz)
        have hSL := Lib.hid (compS_big (show (kernOk bw bh B && kernOk aw ah A) = true by rw [hka.out, hkb.out]; rfl) (fun h => hsz ⟨by omega, by omega⟩))
        clear hsz
        have hB : Below w.heap.size w (((w.alloc (.cells #[.int .i64 iw, .int .i64 ih, .slice a n c] 24)).alloc (.cells #[.int .i64 aw, .int .i64 ah, .slice ax na ca] 64)).alloc (.cells #[.int .i64 bw, .int .i64 bh, .slice bx nb cb] 64)) := below_al (below_al (below_al (Below.refl _ _) _) _) _
        have km := (((Blk.new w 24 #[.int .i64 iw, .int .i64 ih, .slice a n c]).alloc (.cells #[.int .i64 aw, .int .i64 ah, .slice ax na ca] 64)).alloc (.cells #[.int .i64 bw, .int .i64 bh, .slice bx nb cb] 64))
        have ka := ((Blk.new (w.alloc (.cells #[.int .i64 iw, .int .i64 ih, .slice a n c] 24)) 64 #[.int .i64 aw, .int .i64 ah, .slice ax na ca]).alloc (.cells #[.int .i64 bw, .int .i64 bh, .slice bx nb cb] 64))
        have kb := (Blk.new ((w.alloc (.cells #[.int .i64 iw, .int .i64 ih, .slice a n c] 24)).alloc (.cells #[.int .i64 aw, .int .i64 ah, .slice ax na ca] 64)) 64 #[.int .i64 bw, .int .i64 bh, .slice bx nb cb])
        simp only [World.size_alloc] at ka kb
        obtain ⟨W0, hW⟩ : ∃ W, (((w.alloc (.cells #[.int .i64 iw, .int .i64 ih, .slice a n c] 24)).alloc (.cells #[.int .i64 aw, .int .i64 ah, .slice ax na ca] 64)).alloc (.cells #[.int .i64 bw, .int .i64 bh, .slice bx nb cb] 64)) = W := ⟨_, rfl⟩
        rw [hW] at hB km ka kb
        have m0 := km.cell (i := 0) rfl
        have m1 := km.cell (i := 1) rfl
        have m2 := km.cell (i := 2) rfl
        have s0 := ka.cell (i := 0) rfl
        have s1 := ka.cell (i := 1) rfl
        have s2 := ka.cell (i := 2) rfl
        have t0 := kb.cell (i := 0) rfl
        have t1 := kb.cell (i := 1) rfl
        have t2 := kb.cell (i := 2) rfl
        go_enter Try.func17, Try.ntmps17
        go_wp2_with fail
        clear hW
        refine (alive_any _).mono ?_
        rintro e V1 ⟨rfl, hb⟩
        clear m0 m1 m2 s0 s1 s2 t0 t1 t2
        replace km := km.below hb km.lt
        replace ka := ka.below hb ka.lt
        replace kb := kb.below hb kb.lt
        replace hB := hB.trans (hb.mono hB.size)
        have m0 := km.cell (i := 0) rfl
        have m1 := km.cell (i := 1) rfl
        have m2 := km.cell (i := 2) rfl
        have s0 := ka.cell (i := 0) rfl
        have s1 := ka.cell (i := 1) rfl
        have s2 := ka.cell (i := 2) rfl
        have t0 := kb.cell (i := 0) rfl
        have t1 := kb.cell (i := 1) rfl
        have t2 := kb.cell (i := 2) rfl
        clear hb
        go_wp2_with fail
        have hcall := Compose_any aw ah ax ca na A hna bw bh bx cb nb B hnb _ (by omega) ((hra.below (Nat.le_refl _) hB).mono hB.size) (by omega) ((hrb.below (Nat.le_refl _) hB).mono hB.size)
        rw [hSK.out] at hcall
        refine hcall.mono ?_
        clear hcall
        rintro e V2 ⟨⟨v, hev, sl, hvl, hrow⟩, hb⟩
        have rK : V2.ownsRow w.heap.size 3 1 sl 0 ((([] : List Int)).map (Value.int .i64)) := row_base (row_len (k := (([] : List Int)).length) hl0.out hrow) hB.size
        obtain ⟨srKa, srKc, rfl⟩ := row_slice rK
        have he : e = .returned (.tuple #[.agg #[.int .i64 0, .int .i64 0, .slice srKa 0 srKc], .int .i64 21]) := by rw [hev, hvl]
        subst he
        clear hrow hev hvl
        clear m0 m1 m2 s0 s1 s2 t0 t1 t2
        replace km := km.below hb km.lt
        replace ka := ka.below hb ka.lt
        replace kb := kb.below hb kb.lt
        replace hB := hB.trans (hb.mono hB.size)
        have m0 := km.cell (i := 0) rfl
        have m1 := km.cell (i := 1) rfl
        have m2 := km.cell (i := 2) rfl
        have s0 := ka.cell (i := 0) rfl
        have s1 := ka.cell (i := 1) rfl
        have s2 := ka.cell (i := 2) rfl
        have t0 := kb.cell (i := 0) rfl
        have t1 := kb.cell (i := 1) rfl
        have t2 := kb.cell (i := 2) rfl
        clear hb
        obtain ⟨V3, hW⟩ : ∃ V3, V2.alloc (.cells #[.int .i64 0, .int .i64 0, .slice srKa 0 srKc] 64) = V3 := ⟨_, rfl⟩
        obtain ⟨bkK, hbx⟩ : ∃ bkK, V2.heap.size = bkK := ⟨_, rfl⟩
        have kK := Blk.new V2 64 #[.int .i64 0, .int .i64 0, .slice srKa 0 srKc]
        rw [hW, hbx] at kK
        have hb : Below V2.heap.size V2 V3 := alloc_below hW
        have km' := km.below hb km.lt
        have lkmkK := km.lt
        rw [hbx] at lkmkK
        have ka' := ka.below hb ka.lt
        have lkakK := ka.lt
        rw [hbx] at lkakK
        have kb' := kb.below hb kb.lt
        have lkbkK := kb.lt
        rw [hbx] at lkbkK
        have m0' := km'.cell (i := 0) rfl
        have m1' := km'.cell (i := 1) rfl
        have m2' := km'.cell (i := 2) rfl
        have s0' := ka'.cell (i := 0) rfl
        have s1' := ka'.cell (i := 1) rfl
        have s2' := ka'.cell (i := 2) rfl
        have t0' := kb'.cell (i := 0) rfl
        have t1' := kb'.cell (i := 1) rfl
        have t2' := kb'.cell (i := 2) rfl
        have xk0 := kK.cell (i := 0) rfl
        have xk1 := kK.cell (i := 1) rfl
        have xk2 := kK.cell (i := 2) rfl
        have fxk0 := kK.frozen 0
        have fxk1 := kK.frozen 1
        have fxk2 := kK.frozen 2
        go_wp2_with fail
        clear hW
        clear hbx
        clear m0 m1 m2 s0 s1 s2 t0 t1 t2
        clear m0' m1' m2' s0' s1' s2' t0' t1' t2'
        replace km := km'
        clear km'
        replace ka := ka'
        clear ka'
        replace kb := kb'
        clear kb'
        have m0 := km.cell (i := 0) rfl
        have m1 := km.cell (i := 1) rfl
        have m2 := km.cell (i := 2) rfl
        have s0 := ka.cell (i := 0) rfl
        have s1 := ka.cell (i := 1) rfl
        have s2 := ka.cell (i := 2) rfl
        have t0 := kb.cell (i := 0) rfl
        have t1 := kb.cell (i := 1) rfl
        have t2 := kb.cell (i := 2) rfl
        replace rK := row_below rK hb
        replace hB := hB.trans (hb.mono hB.size)
        clear hb
        have hcall := Compose_any bw bh bx cb nb B hnb aw ah ax ca na A hna _ (by omega) ((hrb.below (Nat.le_refl _) hB).mono hB.size) (by omega) ((hra.below (Nat.le_refl _) hB).mono hB.size)
        rw [hSL.out] at hcall
        refine hcall.mono ?_
        clear hcall
        rintro e V4 ⟨⟨v, hev, sl, hvl, hrow⟩, hb⟩
        have rL : V4.ownsRow w.heap.size 3 1 sl 0 ((([] : List Int)).map (Value.int .i64)) := row_base (row_len (k := (([] : List Int)).length) hl0.out hrow) hB.size
        obtain ⟨srLa, srLc, rfl⟩ := row_slice rL
        have he : e = .returned (.tuple #[.agg #[.int .i64 0, .int .i64 0, .slice srLa 0 srLc], .int .i64 21]) := by rw [hev, hvl]
        subst he
        clear hrow hev hvl
        clear m0 m1 m2 s0 s1 s2 t0 t1 t2 xk0 xk1 xk2 fxk0 fxk1 fxk2
        replace km := km.below hb km.lt
        replace ka := ka.below hb ka.lt
        replace kb := kb.below hb kb.lt
        replace kK := kK.below hb kK.lt
        replace rK := row_below rK hb
        replace hB := hB.trans (hb.mono hB.size)
        have m0 := km.cell (i := 0) rfl
        have m1 := km.cell (i := 1) rfl
        have m2 := km.cell (i := 2) rfl
        have s0 := ka.cell (i := 0) rfl
        have s1 := ka.cell (i := 1) rfl
        have s2 := ka.cell (i := 2) rfl
        have t0 := kb.cell (i := 0) rfl
        have t1 := kb.cell (i := 1) rfl
        have t2 := kb.cell (i := 2) rfl
        have xk0 := kK.cell (i := 0) rfl
        have xk1 := kK.cell (i := 1) rfl
        have xk2 := kK.cell (i := 2) rfl
        have fxk0 := kK.frozen 0
        have fxk1 := kK.frozen 1
        have fxk2 := kK.frozen 2
        clear hb
        obtain ⟨V5, hW⟩ : ∃ V5, V4.alloc (.cells #[.int .i64 0, .int .i64 0, .slice srLa 0 srLc] 64) = V5 := ⟨_, rfl⟩
        obtain ⟨bkL, hbx⟩ : ∃ bkL, V4.heap.size = bkL := ⟨_, rfl⟩
        have kL := Blk.new V4 64 #[.int .i64 0, .int .i64 0, .slice srLa 0 srLc]
        rw [hW, hbx] at kL
        have hb : Below V4.heap.size V4 V5 := alloc_below hW
        have km' := km.below hb km.lt
        have lkmkL := km.lt
        rw [hbx] at lkmkL
        have ka' := ka.below hb ka.lt
        have lkakL := ka.lt
        rw [hbx] at lkakL
        have kb' := kb.below hb kb.lt
        have lkbkL := kb.lt
        rw [hbx] at lkbkL
        have kK' := kK.below hb kK.lt
        have lkKkL := kK.lt
        rw [hbx] at lkKkL
        have m0' := km'.cell (i := 0) rfl
        have m1' := km'.cell (i := 1) rfl
        have m2' := km'.cell (i := 2) rfl
        have s0' := ka'.cell (i := 0) rfl
        have s1' := ka'.cell (i := 1) rfl
        have s2' := ka'.cell (i := 2) rfl
        have t0' := kb'.cell (i := 0) rfl
        have t1' := kb'.cell (i := 1) rfl
        have t2' := kb'.cell (i := 2) rfl
        have xk0' := kK'.cell (i := 0) rfl
        have xk1' := kK'.cell (i := 1) rfl
        have xk2' := kK'.cell (i := 2) rfl
        have fxk0' := kK'.frozen 0
        have fxk1' := kK'.frozen 1
        have fxk2' := kK'.frozen 2
        have xl0 := kL.cell (i := 0) rfl
        have xl1 := kL.cell (i := 1) rfl
        have xl2 := kL.cell (i := 2) rfl
        have fxl0 := kL.frozen 0
        have fxl1 := kL.frozen 1
        have fxl2 := kL.frozen 2
        go_wp2_with fail
        clear hW
        clear hbx
        clear m0 m1 m2 s0 s1 s2 t0 t1 t2 xk0 xk1 xk2 fxk0 fxk1 fxk2
        clear m0' m1' m2' s0' s1' s2' t0' t1' t2' xk0' xk1' xk2' fxk0' fxk1' fxk2'
        replace km := km'
        clear km'
        replace ka := ka'
        clear ka'
        replace kb := kb'
        clear kb'
        replace kK := kK'
        clear kK'
        have m0 := km.cell (i := 0) rfl
        have m1 := km.cell (i := 1) rfl
        have m2 := km.cell (i := 2) rfl
        have s0 := ka.cell (i := 0) rfl
        have s1 := ka.cell (i := 1) rfl
        have s2 := ka.cell (i := 2) rfl
        have t0 := kb.cell (i := 0) rfl
        have t1 := kb.cell (i := 1) rfl
        have t2 := kb.cell (i := 2) rfl
        have xk0 := kK.cell (i := 0) rfl
        have xk1 := kK.cell (i := 1) rfl
        have xk2 := kK.cell (i := 2) rfl
        have fxk0 := kK.frozen 0
        have fxk1 := kK.frozen 1
        have fxk2 := kK.frozen 2
        replace rK := row_below rK hb
        replace rL := row_below rL hb
        replace hB := hB.trans (hb.mono hB.size)
        clear hb
        refine (ValidKernel_any aw ah ax ca na A hna _ hka _ (by omega) ((hra.below (Nat.le_refl _) hB).mono hB.size)).mono ?_
        rintro e V6 ⟨rfl, hb⟩
        clear m0 m1 m2 s0 s1 s2 t0 t1 t2 xk0 xk1 xk2 fxk0 fxk1 fxk2 xl0 xl1 xl2 fxl0 fxl1 fxl2
        replace km := km.below hb km.lt
        replace ka := ka.below hb ka.lt
        replace kb := kb.below hb kb.lt
        replace kK := kK.below hb kK.lt
        replace kL := kL.below hb kL.lt
        replace rK := row_below rK hb
        replace rL := row_below rL hb
        replace hB := hB.trans (hb.mono hB.size)
        have m0 := km.cell (i := 0) rfl
        have m1 := km.cell (i := 1) rfl
        have m2 := km.cell (i := 2) rfl
        have s0 := ka.cell (i := 0) rfl
        have s1 := ka.cell (i := 1) rfl
        have s2 := ka.cell (i := 2) rfl
        have t0 := kb.cell (i := 0) rfl
        have t1 := kb.cell (i := 1) rfl
        have t2 := kb.cell (i := 2) rfl
        have xk0 := kK.cell (i := 0) rfl
        have xk1 := kK.cell (i := 1) rfl
        have xk2 := kK.cell (i := 2) rfl
        have fxk0 := kK.frozen 0
        have fxk1 := kK.frozen 1
        have fxk2 := kK.frozen 2
        have xl0 := kL.cell (i := 0) rfl
        have xl1 := kL.cell (i := 1) rfl
        have xl2 := kL.cell (i := 2) rfl
        have fxl0 := kL.frozen 0
        have fxl1 := kL.frozen 1
        have fxl2 := kL.frozen 2
        clear hb
        go_wp2_with fail
        refine (ValidKernel_any bw bh bx cb nb B hnb _ hkb _ (by omega) ((hrb.below (Nat.le_refl _) hB).mono hB.size)).mono ?_
        rintro e V7 ⟨rfl, hb⟩
        clear m0 m1 m2 s0 s1 s2 t0 t1 t2 xk0 xk1 xk2 fxk0 fxk1 fxk2 xl0 xl1 xl2 fxl0 fxl1 fxl2
        replace km := km.below hb km.lt
        replace ka := ka.below hb ka.lt
        replace kb := kb.below hb kb.lt
        replace kK := kK.below hb kK.lt
        replace kL := kL.below hb kL.lt
        replace rK := row_below rK hb
        replace rL := row_below rL hb
        replace hB := hB.trans (hb.mono hB.size)
        have m0 := km.cell (i := 0) rfl
        have m1 := km.cell (i := 1) rfl
        have m2 := km.cell (i := 2) rfl
        have s0 := ka.cell (i := 0) rfl
        have s1 := ka.cell (i := 1) rfl
        have s2 := ka.cell (i := 2) rfl
        have t0 := kb.cell (i := 0) rfl
        have t1 := kb.cell (i := 1) rfl
        have t2 := kb.cell (i := 2) rfl
        have xk0 := kK.cell (i := 0) rfl
        have xk1 := kK.cell (i := 1) rfl
        have xk2 := kK.cell (i := 2) rfl
        have fxk0 := kK.frozen 0
        have fxk1 := kK.frozen 1
        have fxk2 := kK.frozen 2
        have xl0 := kL.cell (i := 0) rfl
        have xl1 := kL.cell (i := 1) rfl
        have xl2 := kL.cell (i := 2) rfl
        have fxl0 := kL.frozen 0
        have fxl1 := kL.frozen 1
        have fxl2 := kL.frozen 2
        clear hb
        go_wp2_with fail
        go_ret
        exact ⟨rfl, hB⟩

end Go.Proofs.Ytjglfeonoiljlaa
namespace Go.Proofs.Ytjglfeonoiljlaa.imageComposed
open Go Go.ChangeShapes Go.WideShapes Go.ChangeAt Go.RowKit
set_option linter.unusedVariables false
set_option maxRecDepth 100000

theorem lifted (os : Os) (started : os.Started) (H : Type) (enc : TypeId × Value → H) :
    ReturnsInHanded {} Try.checked os 17 .any (Rows.imageComposedSpec.pre6 enc Try.prog Try.f17 Rows.imageComposedRow.domain false) (Rows.imageComposedSpec.post enc Try.prog Try.f17 false true false false) := by
  refine returnsInHanded_of_change_sized (C := Try.checked) tryOwn started (by kernel_rfl) Try.func17
    (ChangeSpec.witness6 (enc := enc) (C := Try.checked) false ⟨#[], #[.agg #[.int .i64 0, .int .i64 0, .slice none 0 0], .agg #[.int .i64 0, .int .i64 0, .slice none 0 0], .agg #[.int .i64 0, .int .i64 0, .slice none 0 0]], []⟩ 8 (by kernel_rfl) (by kernel_rfl) (by kernel_rfl) (by kernel_rfl)) ?_
  intro W base args ds gs before hval0 hW hcnd hsz _
  have hval : ∀ (j : Nat) t v, Try.f17.params[j]? = some t → args[j]? = some v → Value.okWide Try.prog W .any base t v := hval0
  have hW0 : DataW.Whole enc Try.prog Try.f17.params.toList [] false W args.toList ds gs before := hW
  obtain ⟨p, q, hA0, hV, rfl, hfz, hnd⟩ := hW0
  have hA : DataW.TrodAll enc Try.prog W 0 (fun _ => true) true Try.f17.params.toList args.toList ds p := hA0
  obtain ⟨rfl, rfl⟩ := trodVars_none hV
  have hsz' : (DataW.weightsEach Try.prog (Try.f17.params.toList ++ []) (ds ++ [])).all (· ≤ reachBytes) = true := hsz
  rw [Try.params17] at hA hval hsz'
  simp only [List.append_nil] at hsz'
  obtain ⟨v0, vs0, d0, ds0, p0, q0, hargs, rfl, rfl, h0, r0⟩ := trodAll_cons hA
  obtain ⟨v1, vs1, d1, ds1, p1, q1, rfl, rfl, rfl, h1, r1⟩ := trodAll_cons r0
  obtain ⟨v2, vs2, d2, ds2, p2, q2, rfl, rfl, rfl, h2, r2⟩ := trodAll_cons r1
  obtain ⟨rfl, rfl, rfl⟩ := trodAll_nil r2
  obtain rfl : args = #[v0, v1, v2] := by cases args; simp_all
  obtain ⟨iw0, ih0, a0, n0, c0, xs0, rfl, hn0, hr0, hnil0, hm0, hxs0, wiw0, wih0⟩ := open_im (hval 0 _ _ rfl rfl) h0 (wt_at hsz' (j := 0) rfl rfl)
  obtain ⟨iw1, ih1, a1, n1, c1, xs1, rfl, hn1, hr1, hnil1, hm1, hxs1, wiw1, wih1⟩ := open_kernel (hval 1 _ _ rfl rfl) h1 (wt_at hsz' (j := 1) rfl rfl)
  obtain ⟨iw2, ih2, a2, n2, c2, xs2, rfl, hn2, hr2, hnil2, hm2, hxs2, wiw2, wih2⟩ := open_kernel (hval 2 _ _ rfl rfl) h2 (wt_at hsz' (j := 2) rfl rfl)
  refine (law_composed iw0 ih0 a0 c0 n0 xs0 hn0 iw1 ih1 a1 c1 n1 xs1 hn1 iw2 ih2 a2 c2 n2 xs2 hn2 W (by omega) hr0 (by omega) hr1 (by omega) hr2).mono fun e W' ⟨he, hb⟩ => ?_
  subst he
  exact ⟨_, rfl, post_true rfl (by kernel_rfl) rfl hW ⟨rfl, rfl, rfl⟩ hb⟩

theorem facts : joinedFacts Try.pinned.checked.prog 17 Try.f17 Rows.imageComposedSpec Rows.imageComposedRow = true :=
  facts_of _ _ _ _ rfl rfl (by kernel_rfl) (by kernel_rfl) (by kernel_rfl) (by kernel_rfl) (by kernel_rfl) (by kernel_rfl) (by kernel_rfl) rfl rfl (by kernel_rfl) (by kernel_rfl)

theorem over : Rows.imageComposedRow.holds Try.pinned (OpenSpec.ofChange Rows.imageComposedSpec) :=
  OpenClaim.holds_of_wide 17 Try.f17 rfl rfl rfl rfl rfl rfl rfl ⟨rfl, rfl, rfl, rfl, rfl⟩ rfl rfl rfl rfl rfl (by kernel_rfl) Try.func17 facts
    (of_decide_eq_true (by kernel_rfl)) (by unfold Func.isWrapper; first | (rw [if_pos (by decide +kernel)]; kernel_rfl) | (rw [if_neg (by decide +kernel)]; exact ⟨rfl, rfl⟩))
    (fun os started H enc _ => lifted os started H enc)

theorem proved : Rows.ImageComposedSaid :=
  over
#print axioms proved
end Go.Proofs.Ytjglfeonoiljlaa.imageComposed
