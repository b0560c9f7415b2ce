/- Contracts and laws (ImgS, ImgT, ImgV, ImgW). -/
import Derived.Maps.Own
import Derived.Test.YtekiemlniegddaaGreatQM2
set_option linter.unusedVariables false
set_option linter.unusedSimpArgs false
namespace Go.Proofs.YtekiemlniegddaaGreat
open Go Go.RowKit Go.Shelf
attribute [local go_sem] Oper.semAt_some
/-- Entry t of a shape. -/
def shIn (bs : List Bool) (t : Nat) : Bool := bs[t]?.getD false
def morU (sg : Int) (sw : Nat) (x : Int) (t : Nat) : Int := x + sg * (((t % sw : Nat) : Int) - ((sw / 2 : Nat) : Int))
def morV (sg : Int) (sw sh : Nat) (y : Int) (t : Nat) : Int := y + sg * (((t / sw : Nat) : Int) - ((sh / 2 : Nat) : Int))
/-- Entry t counts at (x, y); the value it gives. -/
def morOk (sg iw ih : Int) (sw sh : Nat) (bs : List Bool) (x y : Int) (t : Nat) : Bool := shIn bs t && (inR (morU sg sw x t) 0 (iw - 1) && inR (morV sg sw sh y t) 0 (ih - 1))
def morVal (sg iw : Int) (xs : List Int) (sw sh : Nat) (x y : Int) (t : Nat) : Int := px xs (morV sg sw sh y t * iw + morU sg sw x t)
def morSg (mx : Bool) : Int := if mx = true then -1 else 1
/-- The value of a dilated (mx) or an eroded image at a place. -/
def morG (mx : Bool) (iw ih : Int) (xs : List Int) (sw sh : Nat) (bs : List Bool) (x y : Int) : Int := morTo mx (morOk (morSg mx) iw ih sw sh bs x y) (morVal (morSg mx) iw xs sw sh x y) (sw * sh)
/-- The fold by a list of numbers. -/
def morL (mx : Bool) (ok : Nat → Bool) (val : Nat → Int) (l : List Nat) : Int :=
 l.foldl (fun b t => if ok t = true then (if mx = true then max b (val t) else min b (val t)) else b) (if mx = true then -2147483648 else 2147483648)
theorem morL_snoc (mx : Bool) (ok : Nat → Bool) (val : Nat → Int) (l : List Nat) (t : Nat) : morL mx ok val (l ++ [t]) = if ok t = true then (if mx = true then max (morL mx ok val l) (val t) else min (morL mx ok val l) (val t)) else morL mx ok val l := by
 unfold morL; rw [List.foldl_append]; rfl
theorem morL_range (mx : Bool) (ok : Nat → Bool) (val : Nat → Int) (n : Nat) : morL mx ok val (List.range n) = morTo mx ok val n := by
 induction n with
 | zero => rfl
 | succ n ih => rw [List.range_succ, morL_snoc, ih]; rfl
set_option maxRecDepth 100000 in
set_option maxHeartbeats 8000000 in
theorem Morph1_any (mx : Bool) (iw ih : Int) (a : Option Addr) (c n : Nat) (xs : List Int) (hn : Hid (xs.length = n)) (hall : Hid (allIn (-2147483648) 2147483648 xs = true)) (sw sh : Nat) (as' : Option Addr) (cs ns : Nat) (bits : List Bool) (hbn : Hid (bits.length = ns)) (hsw : sw = 1 ∨ sw = 3 ∨ sw = 5) (hsh : sh = 1 ∨ sh = 3 ∨ sh = 5) (hns : Hid (sw * sh = ns))
  (fo : Nat) (eg : ∀ args w, (callFunc fo args).run Tryz.prog w = .ok (.enter fo args) w) (hfo : ∀ (u v : Int) (w : World), Calls Tryz.prog fo #[.int .i64 u, .int .i64 v] w fun e w' => e = .returned (.int .i64 (if mx = true then max u v else min u v)) ∧ w = w')
  (x y : Int) (bst bs bsg bm bf : Nat) (W0 : World) (hi1 : 1 ≤ iw) (hi2 : iw ≤ 16) (hi3 : 1 ≤ ih) (hi4 : ih ≤ 16) (hnn : Hid ((n : Int) = iw * ih)) (hx1 : 0 ≤ x) (hx2 : x ≤ iw - 1) (hy1 : 0 ≤ y) (hy2 : y ≤ ih - 1)
  (kst : Blk W0 bst 3 #[.int .i64 (if mx = true then -2147483648 else 2147483648)]) (ks : Blk W0 bs 74 #[.int .i64 sw, .int .i64 sh, .slice as' ns cs]) (ksg : Blk W0 bsg 3 #[.int .i64 (morSg mx)]) (km : Blk W0 bm 32 #[.int .i64 iw, .int .i64 ih, .slice a n c]) (kf : Blk W0 bf 155 #[.func (.func fo) #[] #[]]) (hr : Rd W0.heap.size W0 a xs) (hrb : RdB W0.heap.size W0 as' bits) :
  Calls Tryz.prog 143 (#[.int .i64 x, .int .i64 y] ++ #[.pointer (some ⟨bst, 0, none⟩), .pointer (some ⟨bs, 0, none⟩), .pointer (some ⟨bsg, 0, none⟩), .pointer (some ⟨bm, 0, none⟩), .pointer (some ⟨bf, 0, none⟩)]) W0 fun e W' => e = .returned (.int .i64 (morG mx iw ih xs sw sh bits x y)) ∧ Below W0.heap.size W0 W' := by
 have hnsP : 1 ≤ ns ∧ ns ≤ 25 := by
  have := hns.out
  rcases hsw with rfl | rfl | rfl <;> rcases hsh with rfl | rfl | rfl <;> omega
 obtain ⟨bb, ob, rfl, hbb, hbc⟩ := rdB_at hrb hbn.out (by omega)
 have hbcH := Lib.hid hbc
 clear hbc hrb
 obtain ⟨hw, ehw⟩ : ∃ v, (sw : Int).tdiv 2 = v := ⟨_, rfl⟩
 obtain ⟨hh, ehh⟩ : ∃ v, (sh : Int).tdiv 2 = v := ⟨_, rfl⟩
 have hw1 : ((sw / 2 : Nat) : Int) = hw ∧ 0 ≤ hw ∧ hw ≤ 2 := by rw [← ehw]; rcases hsw with rfl | rfl | rfl <;> decide
 have hh1 : ((sh / 2 : Nat) : Int) = hh ∧ 0 ≤ hh ∧ hh ≤ 2 := by rw [← ehh]; rcases hsh with rfl | rfl | rfl <;> decide
 obtain ⟨hwe, hw2, hw3⟩ := hw1
 obtain ⟨hhe, hh2, hh3⟩ := hh1
 have hweH := Lib.hid hwe
 have hheH := Lib.hid hhe
 clear hwe hhe
 obtain ⟨sg, hsg⟩ : ∃ v, morSg mx = v := ⟨_, rfl⟩
 have hsg1 : sg = -1 ∨ sg = 1 := by rw [← hsg]; unfold morSg; split <;> simp
 obtain ⟨st, hst⟩ : ∃ v : Int, (if mx = true then (-2147483648 : Int) else 2147483648) = v := ⟨_, rfl⟩
 rw [hsg] at ksg
 rw [hst] at kst
 obtain ⟨OK, hOK⟩ : ∃ f, morOk sg iw ih sw sh bits x y = f := ⟨_, rfl⟩
 obtain ⟨VAL, hVAL⟩ : ∃ f, morVal sg iw xs sw sh x y = f := ⟨_, rfl⟩
 have hG := Lib.hid (show morG mx iw ih xs sw sh bits x y = morTo mx OK VAL (sw * sh) by unfold morG; rw [hsg, hOK, hVAL])
 have hst0 := Lib.hid (show st = morL mx OK VAL [] by rw [← hst]; rfl)
 have hOKH := Lib.hid hOK
 have hVALH := Lib.hid hVAL
 clear hsg hst hOK hVAL
 refine (callsIn_wide (n := 10)).1 ?_
 refine callsIn_of_wp_marks Tryz.func143 rfl trivial ?_
 simp only [Tryz.ntmps143, List.size_toArray, List.length_cons, List.length_nil, Nat.reduceAdd, Nat.reduceSub, Array.replicate_succ, Array.replicate_zero, List.push_toArray, List.append_toArray, List.nil_append, List.cons_append]
 obtain ⟨B0, hB0⟩ : ∃ B, W0.heap.size = B := ⟨_, rfl⟩
 have d0 := ((kst.alloc (.cells #[.int .i64 x] 3)).alloc (.cells #[.int .i64 y] 3)).cell (i := 0) rfl
 have e0 := (((ks.alloc (.cells #[.int .i64 x] 3)).alloc (.cells #[.int .i64 y] 3)).alloc (.cells #[.int .i64 st] 3)).cell (i := 0) rfl
 have e1' := (((ks.alloc (.cells #[.int .i64 x] 3)).alloc (.cells #[.int .i64 y] 3)).alloc (.cells #[.int .i64 st] 3)).cell (i := 1) rfl
 gi_wp2_with fail
 clear d0 e0 e1'
 refine ⟨trivial, (callsIn_wide.2 (places_any _ _ _)).mono ?_⟩
 rintro e w' ⟨rfl, rfl⟩
 gi_wp2_with fail
 have kx := ((((Blk.new W0 3 #[.int .i64 x]).alloc (.cells #[.int .i64 y] 3)).alloc (.cells #[.int .i64 st] 3)).alloc (.cells #[.int .i64 sw] 3)).alloc (.cells #[.int .i64 sh] 3)
 have ky := (((Blk.new (W0.alloc (.cells #[.int .i64 x] 3)) 3 #[.int .i64 y]).alloc (.cells #[.int .i64 st] 3)).alloc (.cells #[.int .i64 sw] 3)).alloc (.cells #[.int .i64 sh] 3)
 have ko := ((Blk.new ((W0.alloc (.cells #[.int .i64 x] 3)).alloc (.cells #[.int .i64 y] 3)) 3 #[.int .i64 st]).alloc (.cells #[.int .i64 sw] 3)).alloc (.cells #[.int .i64 sh] 3)
 have kpw := (Blk.new (((W0.alloc (.cells #[.int .i64 x] 3)).alloc (.cells #[.int .i64 y] 3)).alloc (.cells #[.int .i64 st] 3)) 3 #[.int .i64 sw]).alloc (.cells #[.int .i64 sh] 3)
 have kph := Blk.new ((((W0.alloc (.cells #[.int .i64 x] 3)).alloc (.cells #[.int .i64 y] 3)).alloc (.cells #[.int .i64 st] 3)).alloc (.cells #[.int .i64 sw] 3)) 3 #[.int .i64 sh]
 have hbw := below_al (below_al (below_al (below_al (below_al (Below.refl _ W0) (.cells #[.int .i64 x] 3)) (.cells #[.int .i64 y] 3)) (.cells #[.int .i64 st] 3)) (.cells #[.int .i64 sw] 3)) (.cells #[.int .i64 sh] 3)
 have hsz : (((((W0.alloc (.cells #[.int .i64 x] 3)).alloc (.cells #[.int .i64 y] 3)).alloc (.cells #[.int .i64 st] 3)).alloc (.cells #[.int .i64 sw] 3)).alloc (.cells #[.int .i64 sh] 3)).heap.size = W0.heap.size + 1 + 1 + 1 + 1 + 1 := by simp
 simp only [World.size_alloc] at ky ko kpw kph
 obtain ⟨V0, hV0⟩ : ∃ V, ((((W0.alloc (.cells #[.int .i64 x] 3)).alloc (.cells #[.int .i64 y] 3)).alloc (.cells #[.int .i64 st] 3)).alloc (.cells #[.int .i64 sw] 3)).alloc (.cells #[.int .i64 sh] 3) = V := ⟨_, rfl⟩
 rw [hV0] at kx ky ko kpw kph hbw hsz ⊢
 clear hV0
 have lst := kst.lt
 have ls := ks.lt
 have lsg := ksg.lt
 have lm := km.lt
 have lf := kf.lt
 rw [hB0] at lst ls lsg lm lf kx ky ko kpw kph hbw hsz hbb hr
 refine wpIn_rangeFunc_ownG (n := 10) rfl (by omega) (gf := 141) (lb := #[.pointer (some ⟨B0 + 1 + 1 + 1 + 1, 0, none⟩), .pointer (some ⟨B0 + 1 + 1 + 1, 0, none⟩)]) rfl trivial (enters_of Tryz.func141 (by kernel_rfl) rfl)
  (Kp := fun A B => B.heap[B0 + 1 + 1 + 1]? = A.heap[B0 + 1 + 1 + 1]?)
  (places_stopsK Fence.wide 9 trivial rfl (by omega) (B0 + 1 + 1 + 1 + 1) (B0 + 1 + 1 + 1) sw sh (by omega) (by omega) V0 (by omega) (by omega) (kph.cell rfl) (kpw.cell rfl)) (fun h k => k.trans h) (fun W l o o' hl _ _ _ => World.putObj_heap_other (by omega)) (Below.refl _ _) (fun _ => rfl)
  (fun pre W => ((Blk W B0 3 #[.int .i64 x] ∧ Blk W (B0 + 1) 3 #[.int .i64 y]) ∧ (Blk W (B0 + 2) 3 #[.int .i64 (morL mx OK VAL (pre.map Fin.val))] ∧ B0 + 5 ≤ W.heap.size)) ∧ Below B0 W0 W)
  (fun _ _ _ => False)
  (OwnFrom.and (fun s A B row hs hg hr => ⟨⟨blk_keeps hs.1.1 hg (fun r e => (hr r e).2), blk_keeps hs.1.2 hg (fun r e => (hr r e).2)⟩, blk_keeps hs.2.1 hg (fun r e => (hr r e).2), Nat.le_trans hs.2.2 hg.size⟩) (ownFrom_below (by omega) (by omega)))
  (fun _ _ _ _ _ hs _ _ => hs)
  ⟨⟨⟨kx, ky⟩, by rw [List.map_nil, ← hst0.out]; exact ko, by omega⟩, hbw⟩
  ?act
  ?assign ?body ?done ?stop
 case assign =>
  intro l u W K hK
  simp only [enc2]
  gi_wp2
  exact hK
 case body =>
  rintro l pre ⟨i, hi'⟩ W ⟨⟨⟨kx, ky⟩, ko, hs1⟩, hB1⟩ hlt
  have hp0 : 0 < sw := by omega
  have hx : i % sw < sw := Nat.mod_lt _ hp0
  have hy : i / sw < sh := Nat.div_lt_of_lt_mul hi'
  have hsp := idx_split sw i
  have hsn := Lib.hid (morL_snoc mx OK VAL (pre.map Fin.val) i)
  have hpre : (pre ++ [(⟨i, hi'⟩ : Fin (sw * sh))]).map Fin.val = pre.map Fin.val ++ [i] := by simp
  have hpreH := Lib.hid hpre
  clear hpre
  have ecX : cX sw i = ((i % sw : Nat) : Int) := rfl
  have ecY : cY sw i = ((i / sw : Nat) : Int) := rfl
  dsimp only
  rw [ecX, ecY]
  have hin : i < ns := by rw [← hns.out]; exact hi'
  have hokE : OK i = (shIn bits i && (inR (x + sg * (((i % sw : Nat) : Int) - hw)) 0 (iw - 1) && inR (y + sg * (((i / sw : Nat) : Int) - hh)) 0 (ih - 1))) := by rw [← hOKH.out]; unfold morOk morU morV; rw [hweH.out, hheH.out]
  have hvalE : VAL i = px xs ((y + sg * (((i / sw : Nat) : Int) - hh)) * iw + (x + sg * (((i % sw : Nat) : Int) - hw))) := by rw [← hVALH.out]; unfold morVal morU morV; rw [hweH.out, hheH.out]
  have hbit := hbcH.out i hin
  rw [show bits[i]?.getD false = shIn bits i from rfl] at hbit
  obtain ⟨X, hX⟩ : ∃ X, i % sw = X := ⟨_, rfl⟩
  obtain ⟨Y, hY⟩ : ∃ Y, i / sw = Y := ⟨_, rfl⟩
  rw [hX] at hx hsp hokE hvalE ⊢
  rw [hY] at hy hsp hokE hvalE ⊢
  clear hX hY ecX ecY
  obtain ⟨β, hβ⟩ : ∃ β, shIn bits i = β := ⟨_, rfl⟩
  rw [hβ] at hbit hokE
  have p1 : -8 ≤ sg * ((X : Int) - hw) ∧ sg * ((X : Int) - hw) ≤ 8 := by rcases hsg1 with h | h <;> rw [h] <;> omega
  have p2 : -8 ≤ sg * ((Y : Int) - hh) ∧ sg * ((Y : Int) - hh) ≤ 8 := by rcases hsg1 with h | h <;> rw [h] <;> omega
  have p3 : ((Y : Int) * (sw : Int) + (X : Int)) < (ns : Int) := by
   have e : ((Y * sw + X : Nat) : Int) = (Y : Int) * (sw : Int) + (X : Int) := by simp
   omega
  have p4 : 0 ≤ (Y : Int) * (sw : Int) := Int.mul_nonneg (by omega) (by omega)
  obtain ⟨ov, hov⟩ : ∃ v, morL mx OK VAL (pre.map Fin.val) = v := ⟨_, rfl⟩
  rw [hov] at ko
  have hsn2 : morL mx OK VAL (pre.map Fin.val ++ [i]) = if OK i = true then (if mx = true then max ov (VAL i) else min ov (VAL i)) else ov := by rw [hsn.out, hov]
  have hokH := Lib.hid hokE
  have hvalH := Lib.hid hvalE
  have hsn2H := Lib.hid hsn2
  clear hokE hvalE hsn2 hβ hov hsn
  gi_wp2_with fail
  have hS : Below W.heap.size W W.drew := (Below.refl _ _).drew
  refine round_region (fun W' => Below W.heap.size W W') 20 20 l _ (by kernel_rfl) (by kernel_rfl) (fun ⟨_, _, h⟩ => h) rfl ?_
  simp only [Array.replicate_succ, Array.replicate_zero, List.push_toArray, List.nil_append, List.cons_append]
  refine tkz 0 (v := ?rv0) rfl hS (fun w' hS' => ?ry0) ?rz0
  case ry0 =>
   have a0 := (ks.below (hB1.trans (hS'.mono (by omega))) (by omega)).cell (i := 0) rfl
   have a1 := (ks.below (hB1.trans (hS'.mono (by omega))) (by omega)).cell (i := 1) rfl
   have b0 := (ksg.below (hB1.trans (hS'.mono (by omega))) (by omega)).cell (i := 0) rfl
   have c0 := (kx.below hS' kx.lt).cell (i := 0) rfl
   have d0 := (ky.below hS' ky.lt).cell (i := 0) rfl
   go_simp
   rfl
  simp only [nrz]
  refine tkz 1 (v := ?rv1) rfl hS (fun w' hS' => ?ry1) ?rz1
  case ry1 =>
   have a0 := (ks.below (hB1.trans (hS'.mono (by omega))) (by omega)).cell (i := 0) rfl
   have a1 := (ks.below (hB1.trans (hS'.mono (by omega))) (by omega)).cell (i := 1) rfl
   have b0 := (ksg.below (hB1.trans (hS'.mono (by omega))) (by omega)).cell (i := 0) rfl
   have c0 := (kx.below hS' kx.lt).cell (i := 0) rfl
   have d0 := (ky.below hS' ky.lt).cell (i := 0) rfl
   go_simp
   rfl
  simp only [nrz]
  refine tkz 2 rfl hS (fun w' hS' => by go_simp; rfl) ?_
  simp only [nrz]
  refine tkz 3 rfl hS (fun w' hS' => by go_simp; rfl) ?_
  simp only [nrz]
  refine tkz 4 (v := ?rv4) rfl hS (fun w' hS' => ?ry4) ?rz4
  case ry4 =>
   have a0 := (ks.below (hB1.trans (hS'.mono (by omega))) (by omega)).cell (i := 0) rfl
   have a1 := (ks.below (hB1.trans (hS'.mono (by omega))) (by omega)).cell (i := 1) rfl
   have b0 := (ksg.below (hB1.trans (hS'.mono (by omega))) (by omega)).cell (i := 0) rfl
   have c0 := (kx.below hS' kx.lt).cell (i := 0) rfl
   have d0 := (ky.below hS' ky.lt).cell (i := 0) rfl
   go_simp
   rfl
  simp only [nrz]
  refine tkz 5 rfl hS (fun w' hS' => by go_simp; (try go_ints); rfl) ?_
  simp only [nrz]
  refine tkz 6 rfl hS (fun w' hS' => by go_simp; (try go_ints); rfl) ?_
  simp only [nrz]
  refine tkz 7 rfl hS (fun w' hS' => by go_simp; (try go_ints); rfl) ?_
  simp only [nrz]
  refine tkz 8 rfl hS (fun w' hS' => by go_simp; (try go_ints); rfl) ?_
  simp only [nrz]
  refine tkz 9 (v := ?rv9) rfl hS (fun w' hS' => ?ry9) ?rz9
  case ry9 =>
   have a0 := (ks.below (hB1.trans (hS'.mono (by omega))) (by omega)).cell (i := 0) rfl
   have a1 := (ks.below (hB1.trans (hS'.mono (by omega))) (by omega)).cell (i := 1) rfl
   have b0 := (ksg.below (hB1.trans (hS'.mono (by omega))) (by omega)).cell (i := 0) rfl
   have c0 := (kx.below hS' kx.lt).cell (i := 0) rfl
   have d0 := (ky.below hS' ky.lt).cell (i := 0) rfl
   go_simp
   rfl
  simp only [nrz]
  refine tkz 10 (v := ?rv10) rfl hS (fun w' hS' => ?ry10) ?rz10
  case ry10 =>
   have a0 := (ks.below (hB1.trans (hS'.mono (by omega))) (by omega)).cell (i := 0) rfl
   have a1 := (ks.below (hB1.trans (hS'.mono (by omega))) (by omega)).cell (i := 1) rfl
   have b0 := (ksg.below (hB1.trans (hS'.mono (by omega))) (by omega)).cell (i := 0) rfl
   have c0 := (kx.below hS' kx.lt).cell (i := 0) rfl
   have d0 := (ky.below hS' ky.lt).cell (i := 0) rfl
   go_simp
   rfl
  simp only [nrz]
  refine tkz 11 rfl hS (fun w' hS' => by go_simp; rfl) ?_
  simp only [nrz]
  refine tkz 12 rfl hS (fun w' hS' => by go_simp; rfl) ?_
  simp only [nrz]
  refine tkz 13 (v := ?rv13) rfl hS (fun w' hS' => ?ry13) ?rz13
  case ry13 =>
   have a0 := (ks.below (hB1.trans (hS'.mono (by omega))) (by omega)).cell (i := 0) rfl
   have a1 := (ks.below (hB1.trans (hS'.mono (by omega))) (by omega)).cell (i := 1) rfl
   have b0 := (ksg.below (hB1.trans (hS'.mono (by omega))) (by omega)).cell (i := 0) rfl
   have c0 := (kx.below hS' kx.lt).cell (i := 0) rfl
   have d0 := (ky.below hS' ky.lt).cell (i := 0) rfl
   go_simp
   rfl
  simp only [nrz]
  refine tkz 14 rfl hS (fun w' hS' => by go_simp; (try go_ints); rfl) ?_
  simp only [nrz]
  refine tkz 15 rfl hS (fun w' hS' => by go_simp; (try go_ints); rfl) ?_
  simp only [nrz]
  refine tkz 16 rfl hS (fun w' hS' => by go_simp; (try go_ints); rfl) ?_
  simp only [nrz]
  refine tkz 17 rfl hS (fun w' hS' => by go_simp; (try go_ints); rfl) ?_
  simp only [nrz]
  refine tkz 18 rfl hS (fun w' hS' => by go_simp; rfl) ?_
  simp only [nrz]
  refine tkz 19 rfl hS (fun w' hS' => by go_simp; rfl) ?_
  simp only [nrz]
  refine done_ops (by kernel_rfl) ?_
  have hBV : Below B0 W0 W.drew := hB1.trans (hS.mono (by omega))
  have k1x := kx.below hS kx.lt
  have k1y := ky.below hS ky.lt
  have k1o := ko.below hS ko.lt
  have k1s := ks.below hBV (by omega)
  have k1m := km.below hBV (by omega)
  have k1f := kf.below hBV (by omega)
  have hbit1 := (hBV.cell (p := ⟨bb, ob + i, none⟩) hbb).trans hbit
  have hsV : B0 + 5 ≤ W.drew.heap.size := Nat.le_trans hs1 hS.size
  obtain ⟨V, hV⟩ : ∃ V, W.drew = V := ⟨_, rfl⟩
  rw [hV] at hS hBV k1x k1y k1o k1s k1m k1f hbit1 hsV ⊢
  clear hV
  obtain ⟨a0, a1, a2⟩ := cz3 k1s
  obtain ⟨b0, b1, b2⟩ := cz3 k1m
  cases β with
  | false =>
   have hno := Lib.hid (show morL mx OK VAL (pre.map Fin.val ++ [i]) = ov by rw [hsn2H.out, hokH.out]; rfl)
   gi_wp2_with fail
   refine ⟨trivial, ?_⟩
   gi_wp2_with fail
   exact ⟨(others_of_below hS).from _, hS.block _ (by omega), ⟨⟨k1x, k1y⟩, by rw [hpreH.out, hno.out]; exact k1o, hsV⟩, hBV⟩
  | true =>
   gi_wp2_with fail
   refine ⟨trivial, (CallsIn.inRound l (callsIn_wide.2 (inside_any iw ih (x + sg * ((X : Int) - hw)) (y + sg * ((Y : Int) - hh)) (.slice a n c) V (by omega) (by omega) (by omega) (by omega) ⟨_, _, _, rfl⟩))).mono ?_⟩
   rintro e V1 ⟨rfl, hb1⟩
   obtain ⟨γ, hγ⟩ : ∃ γ, (inR (x + sg * ((X : Int) - hw)) 0 (iw - 1) && inR (y + sg * ((Y : Int) - hh)) 0 (ih - 1)) = γ := ⟨_, rfl⟩
   rw [hγ]
   have hokE := hokH.out
   rw [hγ, Bool.true_and] at hokE
   have hokH2 := Lib.hid hokE
   clear hokE a0 a1 a2 b0 b1 b2
   have hS1 : Below W.heap.size W V1 := hS.trans (hb1.mono hS.size)
   replace hBV := hBV.trans (hb1.mono (by omega))
   replace k1x := k1x.below hb1 k1x.lt
   replace k1y := k1y.below hb1 k1y.lt
   replace k1o := k1o.below hb1 k1o.lt
   replace k1m := k1m.below hb1 k1m.lt
   replace k1f := k1f.below hb1 k1f.lt
   replace hsV := Nat.le_trans hsV hb1.size
   cases γ with
   | false =>
    have hno := Lib.hid (show morL mx OK VAL (pre.map Fin.val ++ [i]) = ov by rw [hsn2H.out, hokH2.out]; rfl)
    gi_wp2_with fail
    exact ⟨(others_of_below hS1).from _, hS1.block _ (by omega), ⟨⟨k1x, k1y⟩, by rw [hpreH.out, hno.out]; exact k1o, hsV⟩, hBV⟩
   | true =>
    have hyes := Lib.hid (show morL mx OK VAL (pre.map Fin.val ++ [i]) = (if mx = true then max ov (VAL i) else min ov (VAL i)) by rw [hsn2H.out, hokH2.out]; rfl)
    simp only [Bool.and_eq_true, inR_true] at hγ
    obtain ⟨⟨g1, g2⟩, g3, g4⟩ := hγ
    obtain ⟨q1, q2, q3, q4⟩ := in_idx (iw := iw) (ih := ih) (u := x + sg * ((X : Int) - hw)) (v := y + sg * ((Y : Int) - hh)) hi1 hnn.out g1 g2 g3 g4
    have hn9 : n ≤ 256 := by
     have := hnn.out
     obtain ⟨m1, m2⟩ := mul_small (a := iw) (b := ih) (m := 16) (n := 16) (by omega) (by omega) (by omega) (by omega)
     omega
    obtain ⟨pv, hpv⟩ : ∃ v, VAL i = v := ⟨_, rfl⟩
    have hpvH := Lib.hid (hvalH.out.symm.trans hpv)
    obtain ⟨nv, hnv⟩ : ∃ v, (if mx = true then max ov pv else min ov pv) = v := ⟨_, rfl⟩
    have hnvH := Lib.hid hnv
    have hyes2 := Lib.hid (show morL mx OK VAL (pre.map Fin.val ++ [i]) = nv by rw [hyes.out, hpv, hnv])
    clear hpv hnv hyes
    have hS : Below V1.heap.size V1 V1.drew := (Below.refl _ _).drew
    gi_wp2_with fail
    refine round_region (fun W' => Below V1.heap.size V1 W') 7 8 l _ (by kernel_rfl) (by kernel_rfl) (fun ⟨_, _, h⟩ => h) rfl ?_
    simp only [Array.replicate_succ, Array.replicate_zero, List.push_toArray, List.nil_append, List.cons_append]
    refine tkz 0 (v := ?sv0) rfl hS (fun w' hS' => ?sy0) ?sz0
    case sy0 =>
     obtain ⟨a0, a1, a2⟩ := cz3 (k1m.below hS' k1m.lt)
     have b0 := (k1f.below hS' k1f.lt).cell (i := 0) rfl
     have c0 := (k1o.below hS' k1o.lt).cell (i := 0) rfl
     go_simp
     rfl
    simp only [nrz]
    refine tkz 1 (v := ?sv1) rfl hS (fun w' hS' => ?sy1) ?sz1
    case sy1 =>
     obtain ⟨a0, a1, a2⟩ := cz3 (k1m.below hS' k1m.lt)
     have b0 := (k1f.below hS' k1f.lt).cell (i := 0) rfl
     have c0 := (k1o.below hS' k1o.lt).cell (i := 0) rfl
     go_simp
     rfl
    simp only [nrz]
    refine tkz 2 (v := ?sv2) rfl hS (fun w' hS' => ?sy2) ?sz2
    case sy2 =>
     obtain ⟨a0, a1, a2⟩ := cz3 (k1m.below hS' k1m.lt)
     have b0 := (k1f.below hS' k1f.lt).cell (i := 0) rfl
     have c0 := (k1o.below hS' k1o.lt).cell (i := 0) rfl
     go_simp
     rfl
    simp only [nrz]
    refine tkz 3 rfl hS (fun w' hS' => by go_simp; rfl) ?_
    simp only [nrz]
    refine tkz 4 rfl hS (fun w' hS' => by go_simp; rfl) ?_
    simp only [nrz]
    refine step_op 5 (by kernel_rfl) rfl (fun K hK => ?_)
    rw [if_pos (by rfl)]
    go_simp
    refine (at_any iw ih _ _ a c xs n hn _ (Int.le_trans (by decide) q1) (Int.le_trans (Int.le_of_lt q4) (by omega)) q2 q3 (by omega) ((hr.below (by omega) (hBV.trans (hS.mono (by omega)))).mono (by have := hS.size; omega))).mono ?_
    rintro e W2 ⟨rfl, hb2⟩
    rw [hpvH.out]
    have hS2 : Below V1.heap.size V1 W2 := hS.trans (hb2.mono hS.size)
    refine hK.out _ _ (fun h => hS2) ?_
    clear hK K
    try simp only [Act.put, nrz]
    refine step_op 6 (by kernel_rfl) rfl (fun K hK => ?_)
    rw [if_pos (by rfl)]
    go_simp
    refine (hfo ov pv _).mono ?_
    rintro e W3 ⟨rfl, rfl⟩
    rw [hnvH.out]
    refine hK.out _ _ (fun h => hS2) ?_
    clear hK K
    try simp only [Act.put, nrz]
    refine step_op 7 (by kernel_rfl) rfl (fun K hK => ?_)
    have k2o := k1o.below hS2 k1o.lt
    have c0 := k2o.cell (i := 0) rfl
    have f0 := k2o.frozen 0
    rw [if_pos (by rfl)]
    go_simp
    refine hK.out _ _ (fun h => absurd h (by omega)) ?_
    clear hK K
    try simp only [Act.put, nrz]
    refine done_ops (by kernel_rfl) ?_
    have hS3 : Below W.heap.size W W2 := hS1.trans (hS2.mono hS1.size)
    have hB3 : Below B0 W0 W2 := hBV.trans (hS2.mono (by omega))
    have hgA : W.grownBy (W2.setCell ⟨B0 + 1 + 1, 0, none⟩ (.int .i64 nv)) (some (B0 + 1 + 1)) := grown_trans (grown_of_below hS3 _) (grownBy_setCell' W2 _ _)
    exact ⟨((others_of_below hS3).trans (KeepsOthers.setCell _ _ _)).from _, hgA.block _ (by omega) (by simp), ⟨⟨kx.kept hgA (by simp <;> omega), ky.kept hgA (by simp <;> omega)⟩, by rw [hpreH.out, hyes2.out]; exact k2o.set 0 (.int .i64 nv), Nat.le_trans hs1 hgA.size⟩, hB3.setCell (p := ⟨B0 + 1 + 1, 0, none⟩) (by simp; omega) _⟩
 case done =>
  rintro D ys W hD hys ⟨⟨⟨kx, ky⟩, ko, hs1⟩, hB1⟩ hK
  have hfin := Lib.hid (show morL mx OK VAL (ys.map Fin.val) = morG mx iw ih xs sw sh bits x y by rw [hys, morL_range, hG.out])
  rw [hfin.out] at ko
  have c0 := ko.cell (i := 0) rfl
  gi_wp2
  refine ⟨by simp, .inl ⟨_, _, rfl, run_takeDeferred hK, ?_⟩⟩
  exact ⟨_, results_tmp rfl _ _ _, rfl, by rw [hB0]; exact hB1.trans (belowK_b (w := V0) (by omega) W D _ _ (by omega) hK rfl rfl)⟩
 case stop =>
  rintro D c pre W _ _ h _
  exact h.elim
end Go.Proofs.YtekiemlniegddaaGreat
namespace Go.Proofs.YtekiemlniegddaaGreat
open Go Go.RowKit Go.Shelf
/-- What Dilate (mx) and Erode return. -/
def morS (mx : Bool) (iw ih : Int) (xs : List Int) (sw sh : Int) (bits : List Bool) : ImR :=
 if vld iw ih xs = true then (if shapeOk sw sh bits = true then { w := iw, h := ih, px := img iw.toNat ih.toNat (morG mx iw ih xs sw.toNat sh.toNat bits), err := 0 } else noIm 22) else noIm 20
theorem most_any (u v : Int) (w : World) : Calls Tryz.prog 95 #[.int .i64 u, .int .i64 v] w fun e w' => e = .returned (.int .i64 (max u v)) ∧ w = w' := by
 go_enter Tryz.func95, Tryz.ntmps95
 go_wp2
 all_goals (go_ret; exact ⟨ret_int (by omega), rfl⟩)
theorem least_any (u v : Int) (w : World) : Calls Tryz.prog 96 #[.int .i64 u, .int .i64 v] w fun e w' => e = .returned (.int .i64 (min u v)) ∧ w = w' := by
 go_enter Tryz.func96, Tryz.ntmps96
 go_wp2
 all_goals (go_ret; exact ⟨ret_int (by omega), rfl⟩)
set_option maxRecDepth 100000 in
set_option maxHeartbeats 4000000 in
theorem morph_any (mx : Bool) (iw ih : Int) (a : Option Addr) (c n : Nat) (xs : List Int) (hn : Hid (xs.length = n)) (sw sh : Int) (as' : Option Addr) (cs ns : Nat) (bits : List Bool) (hbn : Hid (bits.length = ns))
  (fo : Nat) (eg : ∀ args w, (callFunc fo args).run Tryz.prog w = .ok (.enter fo args) w) (hfo : ∀ (u v : Int) (w : World), Calls Tryz.prog fo #[.int .i64 u, .int .i64 v] w fun e w' => e = .returned (.int .i64 (if mx = true then max u v else min u v)) ∧ w = w')
  (w : World) (hm : n ≤ 9223372036854775807) (hr : Rd w.heap.size w a xs) (hms : ns ≤ 9223372036854775807) (hrb : RdB w.heap.size w as' bits) :
  Calls Tryz.prog 94 #[imv iw ih a n c, imv sw sh as' ns cs, .int .i64 (morSg mx), .int .i64 (if mx = true then -2147483648 else 2147483648), .func (.func fo) #[] #[]] w (RetIm w.heap.size (morS mx iw ih xs sw sh bits) w) := by
 obtain ⟨st, hst⟩ : ∃ v : Int, (if mx = true then (-2147483648 : Int) else 2147483648) = v := ⟨_, rfl⟩
 obtain ⟨sg, hsg⟩ : ∃ v : Int, morSg mx = v := ⟨_, rfl⟩
 rw [hst, hsg]
 have hstH := Lib.hid hst
 have hsgH := Lib.hid hsg
 have hfoH := Lib.hid hfo
 clear hst hsg hfo
 have hB0 : Below w.heap.size w ((((((w.alloc (.cells #[.int .i64 iw, .int .i64 ih, .slice a n c] 32)).alloc (.cells #[.int .i64 sw, .int .i64 sh, .slice as' ns cs] 74)).alloc (.cells #[.int .i64 sg] 3)).alloc (.cells #[.int .i64 st] 3)).alloc (.cells #[.func (.func fo) #[] #[]] 155)).alloc (.cells #[.int .i64 0, .int .i64 0, .slice none 0 0] 32)) := below_al (below_al (below_al (below_al (below_al (below_al (Below.refl _ _) _) _) _) _) _) _
 obtain ⟨v0, hv⟩ : ∃ v, vld iw ih xs = v := ⟨_, rfl⟩
 have v0H := Lib.hid hv
 obtain ⟨v1, hv1⟩ : ∃ v, sidesB sw sh ns = v := ⟨_, rfl⟩
 have v1H := Lib.hid hv1
 obtain ⟨v2, hv2⟩ : ∃ v, bits.any (fun x => decide (true = x)) = v := ⟨_, rfl⟩
 have v2H := Lib.hid hv2
 have hsp := Lib.hid (show morS mx iw ih xs sw sh bits = if v0 = true then (if (v1 && v2) = true then { w := iw, h := ih, px := img iw.toNat ih.toNat (morG mx iw ih xs sw.toNat sh.toNat bits), err := 0 } else noIm 22) else noIm 20 by unfold morS shapeOk; rw [hbn.out, hv, hv1, hv2])
 clear hv hv1 hv2
 go_enter Tryz.func94, Tryz.ntmps94
 go_wp2_with fail
 refine (valid_any iw ih a c xs n hn _ hm ((hr.below (Nat.le_refl _) hB0).mono hB0.size)).mono ?_
 rintro e W1 ⟨rfl, hb1⟩
 rw [v0H.out]
 have hB1 : Below w.heap.size w W1 := hB0.trans (hb1.mono hB0.size)
 have k5 := ((((((Blk.new w 32 #[.int .i64 iw, .int .i64 ih, .slice a n c]).alloc (.cells #[.int .i64 sw, .int .i64 sh, .slice as' ns cs] 74)).alloc (.cells #[.int .i64 sg] 3)).alloc (.cells #[.int .i64 st] 3)).alloc (.cells #[.func (.func fo) #[] #[]] 155)).alloc (.cells #[.int .i64 0, .int .i64 0, .slice none 0 0] 32)).below hb1 (by simp <;> omega)
 have k6 := (((((Blk.new (w.alloc (.cells #[.int .i64 iw, .int .i64 ih, .slice a n c] 32)) 74 #[.int .i64 sw, .int .i64 sh, .slice as' ns cs]).alloc (.cells #[.int .i64 sg] 3)).alloc (.cells #[.int .i64 st] 3)).alloc (.cells #[.func (.func fo) #[] #[]] 155)).alloc (.cells #[.int .i64 0, .int .i64 0, .slice none 0 0] 32)).below hb1 (by simp <;> omega)
 have k7 := ((((Blk.new ((w.alloc (.cells #[.int .i64 iw, .int .i64 ih, .slice a n c] 32)).alloc (.cells #[.int .i64 sw, .int .i64 sh, .slice as' ns cs] 74)) 3 #[.int .i64 sg]).alloc (.cells #[.int .i64 st] 3)).alloc (.cells #[.func (.func fo) #[] #[]] 155)).alloc (.cells #[.int .i64 0, .int .i64 0, .slice none 0 0] 32)).below hb1 (by simp <;> omega)
 have k8 := (((Blk.new (((w.alloc (.cells #[.int .i64 iw, .int .i64 ih, .slice a n c] 32)).alloc (.cells #[.int .i64 sw, .int .i64 sh, .slice as' ns cs] 74)).alloc (.cells #[.int .i64 sg] 3)) 3 #[.int .i64 st]).alloc (.cells #[.func (.func fo) #[] #[]] 155)).alloc (.cells #[.int .i64 0, .int .i64 0, .slice none 0 0] 32)).below hb1 (by simp <;> omega)
 have k9 := ((Blk.new ((((w.alloc (.cells #[.int .i64 iw, .int .i64 ih, .slice a n c] 32)).alloc (.cells #[.int .i64 sw, .int .i64 sh, .slice as' ns cs] 74)).alloc (.cells #[.int .i64 sg] 3)).alloc (.cells #[.int .i64 st] 3)) 155 #[.func (.func fo) #[] #[]]).alloc (.cells #[.int .i64 0, .int .i64 0, .slice none 0 0] 32)).below hb1 (by simp <;> omega)
 have k := (Blk.new (((((w.alloc (.cells #[.int .i64 iw, .int .i64 ih, .slice a n c] 32)).alloc (.cells #[.int .i64 sw, .int .i64 sh, .slice as' ns cs] 74)).alloc (.cells #[.int .i64 sg] 3)).alloc (.cells #[.int .i64 st] 3)).alloc (.cells #[.func (.func fo) #[] #[]] 155)) 32 #[.int .i64 0, .int .i64 0, .slice none 0 0]).below hb1 (by simp <;> omega)
 simp only [World.size_alloc] at k6 k7 k8 k9 k
 clear hb1 hB0
 obtain ⟨m0, m1, m2⟩ := cz3 k5
 obtain ⟨s0, s1, s2⟩ := cz3 k6
 have g0 := k7.cell (i := 0) rfl
 have t0 := k8.cell (i := 0) rfl
 have f0 := k9.cell (i := 0) rfl
 obtain ⟨c0, c1, c2⟩ := cz3 k
 have fc0 := k.frozen 0
 have fc1 := k.frozen 1
 have fc2 := k.frozen 2
 cases v0 with
 | false =>
  go_wp2_with fail
  have kf := put3_blk k (.int .i64 0) (.int .i64 0) (.slice none 0 0)
  obtain ⟨g0, g1, g2⟩ := cz3 kf
  exact bodyPost_ret (v := .tuple #[.agg #[.int .i64 0, .int .i64 0, .slice none 0 0], .int .i64 20]) (by simp [results, Tryz.results94, go_sem, g0, g1, g2]) rfl ⟨⟨_, by rw [hsp.out]; rfl, by rw [hsp.out]; exact OwnIm_nil _ _⟩, hB1.trans (put3_below (by omega) _ _ _)⟩
 | true =>
  go_wp2_with fail
  refine (sides_any sw sh ns v1 v1H W1).mono ?_
  rintro e W2 ⟨rfl, hb⟩
  have hB2 := hB1.trans (hb.mono hB1.size)
  clear m0 m1 m2
  replace k5 := k5.below hb k5.lt
  obtain ⟨m0, m1, m2⟩ := cz3 k5
  clear s0 s1 s2
  replace k6 := k6.below hb k6.lt
  obtain ⟨s0, s1, s2⟩ := cz3 k6
  clear g0
  replace k7 := k7.below hb k7.lt
  have g0 := k7.cell (i := 0) rfl
  clear t0
  replace k8 := k8.below hb k8.lt
  have t0 := k8.cell (i := 0) rfl
  clear f0
  replace k9 := k9.below hb k9.lt
  have f0 := k9.cell (i := 0) rfl
  clear c0 c1 c2 fc0 fc1 fc2
  replace k := k.below hb k.lt
  obtain ⟨c0, c1, c2⟩ := cz3 k
  have fc0 := k.frozen 0
  have fc1 := k.frozen 1
  have fc2 := k.frozen 2
  clear hb hB1
  cases v1 with
  | false =>
   go_wp2_with fail
   have kf := put3_blk k (.int .i64 0) (.int .i64 0) (.slice none 0 0)
   obtain ⟨g0, g1, g2⟩ := cz3 kf
   exact bodyPost_ret (v := .tuple #[.agg #[.int .i64 0, .int .i64 0, .slice none 0 0], .int .i64 22]) (by simp [results, Tryz.results94, go_sem, g0, g1, g2]) rfl ⟨⟨_, by rw [hsp.out]; rfl, by rw [hsp.out]; exact OwnIm_nil _ _⟩, hB2.trans (put3_below (by omega) _ _ _)⟩
  | true =>
   go_wp2_with fail
   refine (contains_bool true v2 as' cs ns bits hbn v2H W2 hms ((hrb.below (Nat.le_refl _) hB2).mono hB2.size)).mono ?_
   rintro e w2 ⟨rfl, rfl⟩
   cases v2 with
   | false =>
    go_wp2_with fail
    have kf := put3_blk k (.int .i64 0) (.int .i64 0) (.slice none 0 0)
    obtain ⟨g0, g1, g2⟩ := cz3 kf
    exact bodyPost_ret (v := .tuple #[.agg #[.int .i64 0, .int .i64 0, .slice none 0 0], .int .i64 22]) (by simp [results, Tryz.results94, go_sem, g0, g1, g2]) rfl ⟨⟨_, by rw [hsp.out]; rfl, by rw [hsp.out]; exact OwnIm_nil _ _⟩, hB2.trans (put3_below (by omega) _ _ _)⟩
   | true =>
    obtain ⟨⟨i1, i2⟩, ⟨i3, i4⟩, hlen, hall⟩ := vld_true v0H.out
    rw [hn.out] at hlen
    have hlenH := Lib.hid hlen
    have hallH := Lib.hid hall
    clear hlen hall
    obtain ⟨s1, s2, s3⟩ := sidesB_true v1H.out
    obtain ⟨pw, rfl⟩ : ∃ pw : Nat, iw = (pw : Int) := ⟨iw.toNat, by omega⟩
    obtain ⟨ph, rfl⟩ : ∃ ph : Nat, ih = (ph : Int) := ⟨ih.toNat, by omega⟩
    obtain ⟨tw, rfl⟩ : ∃ tw : Nat, sw = (tw : Int) := ⟨sw.toNat, by omega⟩
    obtain ⟨th, rfl⟩ : ∃ th : Nat, sh = (th : Int) := ⟨sh.toNat, by omega⟩
    have htn := Lib.hid (show tw * th = ns by
     have e : ((tw * th : Nat) : Int) = (tw : Int) * (th : Int) := by simp
     omega)
    have t1 : tw = 1 ∨ tw = 3 ∨ tw = 5 := by omega
    have t2 : th = 1 ∨ th = 3 ∨ th = 5 := by omega
    clear s1 s2 s3
    go_wp2_with fail
    refine (made_any pw ph (by omega) (by omega) (by omega) (by omega) 143 #[.pointer (some ⟨w.heap.size + 1 + 1 + 1, 0, none⟩), .pointer (some ⟨w.heap.size + 1, 0, none⟩), .pointer (some ⟨w.heap.size + 1 + 1, 0, none⟩), .pointer (some ⟨w.heap.size, 0, none⟩), .pointer (some ⟨w.heap.size + 1 + 1 + 1 + 1, 0, none⟩)] (enters_of Tryz.func143 (by kernel_rfl) rfl) (morG mx pw ph xs tw th bits) W2 (fun x y W hx hy hb => ?_)).mono ?_
    ·have hBW := hB2.trans (hb.mono hB2.size)
     exact Morph1_any mx pw ph a c n xs hn hallH tw th as' cs ns bits hbn t1 t2 htn fo eg hfoH.out x y _ _ _ _ _ W i1 i2 i3 i4 hlenH (by omega) (by omega) (by omega) (by omega) (by rw [hstH.out]; exact k8.below hb k8.lt) (k6.below hb k6.lt) (by rw [hsgH.out]; exact k7.below hb k7.lt) (k5.below hb k5.lt) (k9.below hb k9.lt) ((hr.below (Nat.le_refl _) hBW).mono hBW.size) ((hrb.below (Nat.le_refl _) hBW).mono hBW.size)
    rintro e W3 ⟨v, rfl, ⟨s, rfl, hrow⟩, hb2⟩
    clear m0 m1 m2 s0 s1 s2 g0 t0 f0 c0 c1 c2 fc0 fc1 fc2
    have k2 := k.below hb2 k.lt
    obtain ⟨c0, c1, c2⟩ := cz3 k2
    have fc0 := k2.frozen 0
    have fc1 := k2.frozen 1
    have fc2 := k2.frozen 2
    obtain ⟨sa, sc, rfl⟩ := row_slice hrow
    go_wp2_with fail
    have kf := put3_blk k2 (.int .i64 pw) (.int .i64 ph) (.slice sa (img pw ph (morG mx pw ph xs tw th bits)).length sc)
    obtain ⟨g0, g1, g2⟩ := cz3 kf
    exact bodyPost_ret (v := .tuple #[.agg #[.int .i64 pw, .int .i64 ph, .slice sa (img pw ph (morG mx pw ph xs tw th bits)).length sc], .int .i64 0]) (by simp [results, Tryz.results94, go_sem, g0, g1, g2]) rfl ⟨⟨_, by rw [hsp.out]; rfl, by rw [hsp.out]; exact OwnIm.weaken ⟨_, rfl, put3_row hrow (k2.not_row (by decide) hrow) _ _ _⟩ hB2.size⟩, (hB2.trans (hb2.mono hB2.size)).trans (put3_below (by omega) _ _ _)⟩
set_option maxRecDepth 100000 in
set_option maxHeartbeats 1000000 in
theorem Dilate_any (iw ih : Int) (a : Option Addr) (c n : Nat) (xs : List Int) (hn : Hid (xs.length = n)) (sw sh : Int) (as' : Option Addr) (cs ns : Nat) (bits : List Bool) (hbn : Hid (bits.length = ns)) (w : World) (hm : n ≤ 9223372036854775807) (hr : Rd w.heap.size w a xs) (hms : ns ≤ 9223372036854775807) (hrb : RdB w.heap.size w as' bits) :
  Calls Tryz.prog 35 #[imv iw ih a n c, imv sw sh as' ns cs] w (RetIm w.heap.size (morS true iw ih xs sw sh bits) w) := by
 obtain ⟨⟨qw, qh, qpx, qe⟩, hR⟩ : ∃ r, morS true iw ih xs sw sh bits = r := ⟨_, rfl⟩
 have hRH := Lib.hid hR
 rw [hR]
 clear hR
 have hB0 : Below w.heap.size w (((w.alloc (.cells #[.int .i64 iw, .int .i64 ih, .slice a n c] 32)).alloc (.cells #[.int .i64 sw, .int .i64 sh, .slice as' ns cs] 74)).alloc (.cells #[.int .i64 0, .int .i64 0, .slice none 0 0] 32)) := below_al (below_al (below_al (Below.refl _ _) _) _) _
 go_enter Tryz.func35, Tryz.ntmps35
 go_wp2_with fail
 have hcall := morph_any true iw ih a c n xs hn sw sh as' cs ns bits hbn 95 (enters_of Tryz.func95 (by kernel_rfl) rfl) (fun u v w => by simpa using most_any u v w) (((w.alloc (.cells #[.int .i64 iw, .int .i64 ih, .slice a n c] 32)).alloc (.cells #[.int .i64 sw, .int .i64 sh, .slice as' ns cs] 74)).alloc (.cells #[.int .i64 0, .int .i64 0, .slice none 0 0] 32)) hm ((hr.below (Nat.le_refl _) hB0).mono hB0.size) hms ((hrb.below (Nat.le_refl _) hB0).mono hB0.size)
 rw [hRH.out] at hcall
 refine hcall.mono ?_
 clear hcall
 rintro e W1 ⟨⟨v, rfl, hv⟩, hb⟩
 obtain ⟨sl, rfl, hrow⟩ := hv
 obtain ⟨sa, sc, rfl⟩ := row_slice hrow
 replace hrow := row_base hrow hB0.size
 have k := (Blk.new ((w.alloc (.cells #[.int .i64 iw, .int .i64 ih, .slice a n c] 32)).alloc (.cells #[.int .i64 sw, .int .i64 sh, .slice as' ns cs] 74)) 32 #[.int .i64 0, .int .i64 0, .slice none 0 0]).below hb (by simp <;> omega)
 simp only [World.size_alloc] at k
 have hB1 := hB0.trans (hb.mono hB0.size)
 clear hb hB0
 obtain ⟨c0, c1, c2⟩ := cz3 k
 have fc0 := k.frozen 0
 have fc1 := k.frozen 1
 have fc2 := k.frozen 2
 go_wp2_with fail
 have kf := put3_blk k (.int .i64 qw) (.int .i64 qh) (.slice sa qpx.length sc)
 obtain ⟨g0, g1, g2⟩ := cz3 kf
 exact bodyPost_ret (v := .tuple #[.agg #[.int .i64 qw, .int .i64 qh, .slice sa qpx.length sc], .int .i64 qe]) (by simp [results, Tryz.results35, go_sem, g0, g1, g2]) rfl ⟨⟨_, rfl, ⟨_, rfl, put3_row hrow (k.not_row (by decide) hrow) _ _ _⟩⟩, hB1.trans (put3_below (by omega) _ _ _)⟩
set_option maxRecDepth 100000 in
set_option maxHeartbeats 1000000 in
theorem Erode_any (iw ih : Int) (a : Option Addr) (c n : Nat) (xs : List Int) (hn : Hid (xs.length = n)) (sw sh : Int) (as' : Option Addr) (cs ns : Nat) (bits : List Bool) (hbn : Hid (bits.length = ns)) (w : World) (hm : n ≤ 9223372036854775807) (hr : Rd w.heap.size w a xs) (hms : ns ≤ 9223372036854775807) (hrb : RdB w.heap.size w as' bits) :
  Calls Tryz.prog 36 #[imv iw ih a n c, imv sw sh as' ns cs] w (RetIm w.heap.size (morS false iw ih xs sw sh bits) w) := by
 obtain ⟨⟨qw, qh, qpx, qe⟩, hR⟩ : ∃ r, morS false iw ih xs sw sh bits = r := ⟨_, rfl⟩
 have hRH := Lib.hid hR
 rw [hR]
 clear hR
 have hB0 : Below w.heap.size w (((w.alloc (.cells #[.int .i64 iw, .int .i64 ih, .slice a n c] 32)).alloc (.cells #[.int .i64 sw, .int .i64 sh, .slice as' ns cs] 74)).alloc (.cells #[.int .i64 0, .int .i64 0, .slice none 0 0] 32)) := below_al (below_al (below_al (Below.refl _ _) _) _) _
 go_enter Tryz.func36, Tryz.ntmps36
 go_wp2_with fail
 have hcall := morph_any false iw ih a c n xs hn sw sh as' cs ns bits hbn 96 (enters_of Tryz.func96 (by kernel_rfl) rfl) (fun u v w => by simpa using least_any u v w) (((w.alloc (.cells #[.int .i64 iw, .int .i64 ih, .slice a n c] 32)).alloc (.cells #[.int .i64 sw, .int .i64 sh, .slice as' ns cs] 74)).alloc (.cells #[.int .i64 0, .int .i64 0, .slice none 0 0] 32)) hm ((hr.below (Nat.le_refl _) hB0).mono hB0.size) hms ((hrb.below (Nat.le_refl _) hB0).mono hB0.size)
 rw [hRH.out] at hcall
 refine hcall.mono ?_
 clear hcall
 rintro e W1 ⟨⟨v, rfl, hv⟩, hb⟩
 obtain ⟨sl, rfl, hrow⟩ := hv
 obtain ⟨sa, sc, rfl⟩ := row_slice hrow
 replace hrow := row_base hrow hB0.size
 have k := (Blk.new ((w.alloc (.cells #[.int .i64 iw, .int .i64 ih, .slice a n c] 32)).alloc (.cells #[.int .i64 sw, .int .i64 sh, .slice as' ns cs] 74)) 32 #[.int .i64 0, .int .i64 0, .slice none 0 0]).below hb (by simp <;> omega)
 simp only [World.size_alloc] at k
 have hB1 := hB0.trans (hb.mono hB0.size)
 clear hb hB0
 obtain ⟨c0, c1, c2⟩ := cz3 k
 have fc0 := k.frozen 0
 have fc1 := k.frozen 1
 have fc2 := k.frozen 2
 go_wp2_with fail
 have kf := put3_blk k (.int .i64 qw) (.int .i64 qh) (.slice sa qpx.length sc)
 obtain ⟨g0, g1, g2⟩ := cz3 kf
 exact bodyPost_ret (v := .tuple #[.agg #[.int .i64 qw, .int .i64 qh, .slice sa qpx.length sc], .int .i64 qe]) (by simp [results, Tryz.results36, go_sem, g0, g1, g2]) rfl ⟨⟨_, rfl, ⟨_, rfl, put3_row hrow (k.not_row (by decide) hrow) _ _ _⟩⟩, hB1.trans (put3_below (by omega) _ _ _)⟩
end Go.Proofs.YtekiemlniegddaaGreat
namespace Go.Proofs.YtekiemlniegddaaGreat
open Go Go.RowKit Go.Shelf
/-- The value for any place, by a border. -/
def beyF (bd iw ih : Int) (xs : List Int) (x y : Int) : Int :=
 if bd = 1 then (if (inR x 0 (iw - 1) && inR y 0 (ih - 1)) = true then px xs (y * iw + x) else 0)
 else if bd = 2 then px xs (clamp y 0 (ih - 1) * iw + clamp x 0 (iw - 1)) else px xs (y % ih * iw + x % iw)
theorem beyF_in {bd iw ih : Int} {xs : List Int} {x y : Int} (h : (inR x 0 (iw - 1) && inR y 0 (ih - 1)) = true) : beyF bd iw ih xs x y = px xs (y * iw + x) := by
 unfold beyF
 rw [if_pos h]
 simp only [Bool.and_eq_true, inR_true] at h
 rw [show clamp x 0 (iw - 1) = x by unfold clamp; omega, show clamp y 0 (ih - 1) = y by unfold clamp; omega, Int.emod_eq_of_lt (by omega) (by omega), Int.emod_eq_of_lt (by omega) (by omega)]
 split
 ·rfl
 ·split <;> rfl
theorem beyF_out1 {iw ih : Int} {xs : List Int} {x y : Int} (h : (inR x 0 (iw - 1) && inR y 0 (ih - 1)) = false) : beyF 1 iw ih xs x y = 0 := by
 unfold beyF; rw [if_pos rfl, h]; rfl
theorem beyF_2 (iw ih : Int) (xs : List Int) (x y : Int) : beyF 2 iw ih xs x y = px xs (clamp y 0 (ih - 1) * iw + clamp x 0 (iw - 1)) := by unfold beyF; rw [if_neg (by decide), if_pos rfl]
theorem beyF_3 (iw ih : Int) (xs : List Int) (x y : Int) : beyF 3 iw ih xs x y = px xs (y % ih * iw + x % iw) := by unfold beyF; rw [if_neg (by decide), if_neg (by decide)]
theorem beyF_bd {xs : List Int} (h : allIn (-2147483648) 2147483648 xs = true) (bd iw ih x y : Int) : -2147483648 ≤ beyF bd iw ih xs x y ∧ beyF bd iw ih xs x y ≤ 2147483648 := by
 unfold beyF
 split
 ·split
  ·exact px_bd h _
  ·omega
 ·split <;> exact px_bd h _
set_option maxRecDepth 100000 in
set_option maxHeartbeats 2000000 in
theorem zero_any (iw ih : Int) (a : Option Addr) (c n : Nat) (xs : List Int) (hn : Hid (xs.length = n)) (x y : Int) (w : World) (hi1 : 1 ≤ iw) (hi2 : iw ≤ 16) (hi3 : 1 ≤ ih) (hi4 : ih ≤ 16) (hnn : Hid ((n : Int) = iw * ih)) (hx1 : -100 ≤ x) (hx2 : x ≤ 100) (hy1 : -100 ≤ y) (hy2 : y ≤ 100) (r : Int) (hres : Hid (beyF 1 iw ih xs x y = r)) (hr : Rd w.heap.size w a xs) :
  Calls Tryz.prog 138 #[imv iw ih a n c, .int .i64 x, .int .i64 y] w fun e w' => e = .returned (.int .i64 r) ∧ Below w.heap.size w w' := by
 have hn9 : n ≤ 256 := by
  have := hnn.out
  obtain ⟨m1, m2⟩ := mul_small (a := iw) (b := ih) (m := 16) (n := 16) (by omega) (by omega) (by omega) (by omega)
  omega
 have hB0 : Below w.heap.size w (w.alloc (.cells #[.int .i64 iw, .int .i64 ih, .slice a n c] 156)) := below_al (Below.refl _ _) _
 have k := Blk.new w 156 #[.int .i64 iw, .int .i64 ih, .slice a n c]
 obtain ⟨W, hW⟩ : ∃ W, w.alloc (.cells #[.int .i64 iw, .int .i64 ih, .slice a n c] 156) = W := ⟨_, rfl⟩
 rw [hW] at hB0 k
 obtain ⟨γ, hγ⟩ : ∃ γ, (inR x 0 (iw - 1) && inR y 0 (ih - 1)) = γ := ⟨_, rfl⟩
 obtain ⟨m0, m1, m2⟩ := cz3 k
 go_enter Tryz.func138, Tryz.ntmps138
 go_wp2_with fail
 clear hW
 refine (inside_any iw ih x y (.slice a n c) W (by omega) (by omega) (by omega) (by omega) ⟨_, _, _, rfl⟩).mono ?_
 rintro e W1 ⟨rfl, hb⟩
 rw [hγ]
 replace k := k.below hb k.lt
 replace hB0 := hB0.trans (hb.mono hB0.size)
 clear m0 m1 m2 hb
 obtain ⟨m0, m1, m2⟩ := cz3 k
 cases γ with
 | true =>
  have hres2 := Lib.hid ((beyF_in hγ).symm.trans hres.out)
  simp only [Bool.and_eq_true, inR_true] at hγ
  obtain ⟨⟨g1, g2⟩, g3, g4⟩ := hγ
  obtain ⟨q1, q2, q3, q4⟩ := in_idx (iw := iw) (ih := ih) (u := x) (v := y) hi1 hnn.out g1 g2 g3 g4
  go_wp2_with fail
  refine (at_any iw ih x y a c xs n hn _ (Int.le_trans (by decide) q1) (Int.le_trans (Int.le_of_lt q4) (by omega)) q2 q3 (by omega) ((hr.below (Nat.le_refl _) hB0).mono hB0.size)).mono ?_
  rintro e W2 ⟨rfl, hb2⟩
  rw [hres2.out]
  go_wp2_with fail
  go_ret
  exact ⟨rfl, hB0.trans (hb2.mono hB0.size)⟩
 | false =>
  have hres2 := Lib.hid ((beyF_out1 hγ).symm.trans hres.out)
  go_wp2_with fail
  go_ret
  exact ⟨ret_int hres2.out, hB0⟩
set_option maxRecDepth 100000 in
set_option maxHeartbeats 2000000 in
theorem near_any (iw ih : Int) (a : Option Addr) (c n : Nat) (xs : List Int) (hn : Hid (xs.length = n)) (x y : Int) (w : World) (hi1 : 1 ≤ iw) (hi2 : iw ≤ 16) (hi3 : 1 ≤ ih) (hi4 : ih ≤ 16) (hnn : Hid ((n : Int) = iw * ih)) (hx1 : -100 ≤ x) (hx2 : x ≤ 100) (hy1 : -100 ≤ y) (hy2 : y ≤ 100) (r : Int) (hres : Hid (beyF 2 iw ih xs x y = r)) (hr : Rd w.heap.size w a xs) :
  Calls Tryz.prog 139 #[imv iw ih a n c, .int .i64 x, .int .i64 y] w fun e w' => e = .returned (.int .i64 r) ∧ Below w.heap.size w w' := by
 have hn9 : n ≤ 256 := by
  have := hnn.out
  obtain ⟨m1, m2⟩ := mul_small (a := iw) (b := ih) (m := 16) (n := 16) (by omega) (by omega) (by omega) (by omega)
  omega
 have hB0 : Below w.heap.size w (w.alloc (.cells #[.int .i64 iw, .int .i64 ih, .slice a n c] 156)) := below_al (Below.refl _ _) _
 have k := Blk.new w 156 #[.int .i64 iw, .int .i64 ih, .slice a n c]
 obtain ⟨W, hW⟩ : ∃ W, w.alloc (.cells #[.int .i64 iw, .int .i64 ih, .slice a n c] 156) = W := ⟨_, rfl⟩
 rw [hW] at hB0 k
 obtain ⟨cx1, cx2⟩ := clamp_le (n := x) (lo := 0) (hi := iw - 1) (by omega)
 obtain ⟨cy1, cy2⟩ := clamp_le (n := y) (lo := 0) (hi := ih - 1) (by omega)
 obtain ⟨q1, q2, q3, q4⟩ := in_idx (iw := iw) (ih := ih) (u := clamp x 0 (iw - 1)) (v := clamp y 0 (ih - 1)) hi1 hnn.out cx1 cx2 cy1 cy2
 have hres2 := Lib.hid ((beyF_2 iw ih xs x y).symm.trans hres.out)
 have hS : Below W.heap.size W W.drew := (Below.refl _ _).drew
 have hBd : Below w.heap.size w W.drew := hB0.trans (hS.mono hB0.size)
 go_enter Tryz.func139, Tryz.ntmps139
 go_wp2_with fail
 clear hW
 refine plain_region (fun W' => Below W.heap.size W W') 13 13 (by kernel_rfl) rfl ?_
 simp only [Array.replicate_succ, Array.replicate_zero, List.push_toArray, List.nil_append, List.cons_append]
 refine tkz 0 rfl hS (fun w' hS' => by obtain ⟨m0, m1, m2⟩ := cz3 (k.below hS' k.lt); go_simp; rfl) ?_
 simp only [nrz]
 refine tkz 1 rfl hS (fun w' hS' => by go_simp; rfl) ?_
 simp only [nrz]
 refine tkz 2 rfl hS (fun w' hS' => by go_simp; rfl) ?_
 simp only [nrz]
 refine tkz 3 rfl hS (fun w' hS' => by obtain ⟨m0, m1, m2⟩ := cz3 (k.below hS' k.lt); go_simp; rfl) ?_
 simp only [nrz]
 refine tkz 4 rfl hS (fun w' hS' => by go_simp; (try go_ints); rfl) ?_
 simp only [nrz]
 refine tkz 6 rfl hS (fun w' hS' => by go_simp; rfl) ?_
 simp only [nrz]
 refine tkz 7 rfl hS (fun w' hS' => by go_simp; rfl) ?_
 simp only [nrz]
 refine tkz 8 rfl hS (fun w' hS' => by obtain ⟨m0, m1, m2⟩ := cz3 (k.below hS' k.lt); go_simp; rfl) ?_
 simp only [nrz]
 refine tkz 9 rfl hS (fun w' hS' => by go_simp; (try go_ints); rfl) ?_
 simp only [nrz]
 refine step_op 5 (by kernel_rfl) rfl (fun K hK => ?_)
 rw [if_pos (by rfl)]
 go_simp
 refine (into_any x 0 (iw - 1) _).mono ?_
 rintro e V1 ⟨rfl, rfl⟩
 refine hK.out _ _ (fun h => hS) ?_
 clear hK K
 try simp only [Act.put, nrz]
 refine step_op 10 (by kernel_rfl) rfl (fun K hK => ?_)
 rw [if_pos (by rfl)]
 go_simp
 refine (into_any y 0 (ih - 1) _).mono ?_
 rintro e V1 ⟨rfl, rfl⟩
 refine hK.out _ _ (fun h => hS) ?_
 clear hK K
 try simp only [Act.put, nrz]
 refine step_op 11 (by kernel_rfl) rfl (fun K hK => ?_)
 rw [if_pos (by rfl)]
 go_simp
 refine (at_any iw ih _ _ a c xs n hn _ (Int.le_trans (by decide) q1) (Int.le_trans (Int.le_of_lt q4) (by omega)) q2 q3 (by omega) ((hr.below (Nat.le_refl _) hBd).mono hBd.size)).mono ?_
 rintro e V2 ⟨rfl, hb2⟩
 rw [hres2.out]
 have hS2 : Below W.heap.size W V2 := hS.trans (hb2.mono hS.size)
 refine hK.out _ _ (fun h => hS2) ?_
 clear hK K
 try simp only [Act.put, nrz]
 refine tkz 12 rfl hS2 (fun w' hS' => by go_simp; rfl) ?_
 simp only [nrz]
 refine done_ops (by kernel_rfl) ?_
 go_wp2_with fail
 go_ret
 exact ⟨rfl, hB0.trans (hS2.mono hB0.size)⟩
theorem tmod_small (x : Int) {m : Int} (h1 : 1 ≤ m) (h2 : m ≤ 16) : -16 ≤ x.tmod m ∧ x.tmod m ≤ 16 := by
 have h3 : x.tmod m = x % m ∨ x.tmod m = x % m - m := by
  rw [Int.tmod_eq_emod]
  split
  ·left; omega
  ·right; omega
 have h4 := Int.emod_nonneg x (show m ≠ 0 by omega)
 have h5 := Int.emod_lt_of_pos x (show 0 < m by omega)
 omega
set_option maxRecDepth 100000 in
set_option maxHeartbeats 2000000 in
theorem wrap_any (iw ih : Int) (a : Option Addr) (c n : Nat) (xs : List Int) (hn : Hid (xs.length = n)) (x y : Int) (w : World) (hi1 : 1 ≤ iw) (hi2 : iw ≤ 16) (hi3 : 1 ≤ ih) (hi4 : ih ≤ 16) (hnn : Hid ((n : Int) = iw * ih)) (hx1 : -100 ≤ x) (hx2 : x ≤ 100) (hy1 : -100 ≤ y) (hy2 : y ≤ 100) (r : Int) (hres : Hid (beyF 3 iw ih xs x y = r)) (hr : Rd w.heap.size w a xs) :
  Calls Tryz.prog 140 #[imv iw ih a n c, .int .i64 x, .int .i64 y] w fun e w' => e = .returned (.int .i64 r) ∧ Below w.heap.size w w' := by
 have hn9 : n ≤ 256 := by
  have := hnn.out
  obtain ⟨m1, m2⟩ := mul_small (a := iw) (b := ih) (m := 16) (n := 16) (by omega) (by omega) (by omega) (by omega)
  omega
 have hB0 : Below w.heap.size w (w.alloc (.cells #[.int .i64 iw, .int .i64 ih, .slice a n c] 156)) := below_al (Below.refl _ _) _
 have k := Blk.new w 156 #[.int .i64 iw, .int .i64 ih, .slice a n c]
 obtain ⟨W, hW⟩ : ∃ W, w.alloc (.cells #[.int .i64 iw, .int .i64 ih, .slice a n c] 156) = W := ⟨_, rfl⟩
 rw [hW] at hB0 k
 obtain ⟨X, hX⟩ : ∃ X, x % iw = X := ⟨_, rfl⟩
 obtain ⟨Y, hY⟩ : ∃ Y, y % ih = Y := ⟨_, rfl⟩
 have eX := rest_emod x iw hi1
 have eY := rest_emod y ih hi3
 rw [hX] at eX
 rw [hY] at eY
 have bX : 0 ≤ X ∧ X ≤ iw - 1 := by
  have h1 := Int.emod_nonneg x (show iw ≠ 0 by omega)
  have h2 := Int.emod_lt_of_pos x (show 0 < iw by omega)
  omega
 have bY : 0 ≤ Y ∧ Y ≤ ih - 1 := by
  have h1 := Int.emod_nonneg y (show ih ≠ 0 by omega)
  have h2 := Int.emod_lt_of_pos y (show 0 < ih by omega)
  omega
 have tX : -16 ≤ x.tmod iw ∧ x.tmod iw ≤ 16 := tmod_small x (by omega) (by omega)
 have tY : -16 ≤ y.tmod ih ∧ y.tmod ih ≤ 16 := tmod_small y (by omega) (by omega)
 obtain ⟨q1, q2, q3, q4⟩ := in_idx (iw := iw) (ih := ih) (u := X) (v := Y) hi1 hnn.out bX.1 bX.2 bY.1 bY.2
 have hres2 := Lib.hid (show px xs (Y * iw + X) = r by rw [← hres.out, beyF_3, hX, hY])
 have nw : iw ≠ 0 := by omega
 have nh : ih ≠ 0 := by omega
 clear hX hY
 have hS : Below W.heap.size W W.drew := (Below.refl _ _).drew
 have hBd : Below w.heap.size w W.drew := hB0.trans (hS.mono hB0.size)
 go_enter Tryz.func140, Tryz.ntmps140
 go_wp2_with fail
 clear hW
 refine plain_region (fun W' => Below W.heap.size W W') 23 23 (by kernel_rfl) rfl ?_
 simp only [Array.replicate_succ, Array.replicate_zero, List.push_toArray, List.nil_append, List.cons_append]
 refine tkz 0 rfl hS (fun w' hS' => by obtain ⟨m0, m1, m2⟩ := cz3 (k.below hS' k.lt); go_simp; rfl) ?_
 simp only [nrz]
 refine tkz 1 rfl hS (fun w' hS' => by go_simp; rfl) ?_
 simp only [nrz]
 refine tkz 2 rfl hS (fun w' hS' => by go_simp; rfl) ?_
 simp only [nrz]
 refine tkz 3 rfl hS (fun w' hS' => by obtain ⟨m0, m1, m2⟩ := cz3 (k.below hS' k.lt); go_simp; rfl) ?_
 simp only [nrz]
 refine tkz 4 rfl hS (fun w' hS' => by go_simp; (try go_ints); rfl) ?_
 simp only [nrz]
 refine tkz 5 rfl hS (fun w' hS' => by go_simp; rfl) ?_
 simp only [nrz]
 refine tkz 6 rfl hS (fun w' hS' => by obtain ⟨m0, m1, m2⟩ := cz3 (k.below hS' k.lt); go_simp; rfl) ?_
 simp only [nrz]
 refine tkz 7 rfl hS (fun w' hS' => by go_simp; (try go_ints); rfl) ?_
 simp only [nrz]
 refine tkz 8 rfl hS (fun w' hS' => by go_simp; rfl) ?_
 simp only [nrz]
 refine tkz 9 rfl hS (fun w' hS' => by obtain ⟨m0, m1, m2⟩ := cz3 (k.below hS' k.lt); go_simp; rfl) ?_
 simp only [nrz]
 refine tkz 10 rfl hS (fun w' hS' => by go_simp; (try go_ints); rfl) ?_
 simp only [nrz]
 refine tkz 11 rfl hS (fun w' hS' => by go_simp; rfl) ?_
 simp only [nrz]
 refine tkz 12 rfl hS (fun w' hS' => by go_simp; rfl) ?_
 simp only [nrz]
 refine tkz 13 rfl hS (fun w' hS' => by obtain ⟨m0, m1, m2⟩ := cz3 (k.below hS' k.lt); go_simp; rfl) ?_
 simp only [nrz]
 refine tkz 14 rfl hS (fun w' hS' => by go_simp; (try go_ints); rfl) ?_
 simp only [nrz]
 refine tkz 15 rfl hS (fun w' hS' => by go_simp; rfl) ?_
 simp only [nrz]
 refine tkz 16 rfl hS (fun w' hS' => by obtain ⟨m0, m1, m2⟩ := cz3 (k.below hS' k.lt); go_simp; rfl) ?_
 simp only [nrz]
 refine tkz 17 rfl hS (fun w' hS' => by go_simp; (try go_ints); rfl) ?_
 simp only [nrz]
 refine tkz 18 rfl hS (fun w' hS' => by go_simp; rfl) ?_
 simp only [nrz]
 refine tkz 19 rfl hS (fun w' hS' => by obtain ⟨m0, m1, m2⟩ := cz3 (k.below hS' k.lt); go_simp; rfl) ?_
 simp only [nrz]
 refine tkz 20 rfl hS (fun w' hS' => by go_simp; (try go_ints); rfl) ?_
 simp only [nrz]
 refine step_op 21 (by kernel_rfl) rfl (fun K hK => ?_)
 rw [if_pos (by rfl)]
 go_simp
 refine (at_any iw ih X Y a c xs n hn _ (Int.le_trans (by decide) q1) (Int.le_trans (Int.le_of_lt q4) (by omega)) q2 q3 (by omega) ((hr.below (Nat.le_refl _) hBd).mono hBd.size)).mono ?_
 rintro e V2 ⟨rfl, hb2⟩
 rw [hres2.out]
 have hS2 : Below W.heap.size W V2 := hS.trans (hb2.mono hS.size)
 refine hK.out _ _ (fun h => hS2) ?_
 clear hK K
 try simp only [Act.put, nrz]
 refine tkz 22 rfl hS2 (fun w' hS' => by go_simp; rfl) ?_
 simp only [nrz]
 refine done_ops (by kernel_rfl) ?_
 go_wp2_with fail
 go_ret
 exact ⟨rfl, hB0.trans (hS2.mono hB0.size)⟩
/-- How the borders' functions are told in a map. -/
def fnR (v : Value) : Option (DataW Unit × List MemPlace) := match v with
 | .func (.func k) l m => if l = #[] ∧ m = #[] then some (.lit (.int .i64 k), []) else none
 | .nilFunc => some (.lit (.int .i64 (-1)), [])
 | _ => none
theorem fnR_func {v : Value} {k : Nat} {ps : List MemPlace} (h : fnR v = some (.lit (.int .i64 k), ps)) : v = .func (.func k) #[] #[] := by
 unfold fnR at h
 split at h
 ·split at h
  ·rename_i hc
   simp only [Option.some.injEq, Prod.mk.injEq, DataW.lit.injEq, Lit.int.injEq, true_and] at h
   obtain ⟨h1, _⟩ := h
   have : (_ : Nat) = k := Int.ofNat.inj h1
   rw [this, hc.1, hc.2]
  ·simp at h
 ·simp at h <;> omega
 ·simp at h
theorem fnR_nil {v : Value} {ps : List MemPlace} (h : fnR v = some (.lit (.int .i64 (-1)), ps)) : v = .nilFunc := by
 unfold fnR at h
 split at h
 ·split at h
  ·simp at h <;> omega
  ·simp at h
 ·rfl
 ·simp at h
/-- The function of a border. -/
def bordF (bd : Int) : Value := if bd = 1 then .func (.func 138) #[] #[] else if bd = 2 then .func (.func 139) #[] #[] else if bd = 3 then .func (.func 140) #[] #[] else .nilFunc
set_option maxRecDepth 100000 in
set_option maxHeartbeats 2000000 in
theorem border_any (bd : Int) (h1 : 0 ≤ bd) (h2 : bd ≤ 255) (r : Value) (hres : Hid (bordF bd = r)) (w : World) :
  Calls Tryz.prog 91 #[.int .u8 bd] w fun e w' => e = .returned r ∧ Below w.heap.size w w' := by
 have hmm := @run_makeMap Tryz.prog
 have K : Maps.Keyed Tryz.prog 5 := Maps.int_keyed Tryz.underlying5
 have key : ∀ k : Int, 0 ≤ k → k ≤ 255 → keyOf Tryz.prog 5 (.int .u8 k) = some (.int .u8 k) := fun k hk1 hk2 => Maps.keyOf_int_mk Tryz.underlying5 (by simp [Lit.wf, IntKind.min, IntKind.max, IntKind.signed, IntKind.bits]; omega)
 have m0 := World.ownsMap_made (H := Unit) w Tryz.prog 5 fnR
 obtain ⟨w1, r1, m1, g1⟩ := m0.update K Tryz.underlying195 (by unfold maxLen; omega) (key 1 (by omega) (by omega)) (val := .func (.func 138) #[] #[]) (d := .lit (.int .i64 (138 : Nat))) (ps := []) rfl
 obtain ⟨w2, r2, m2, g2⟩ := m1.update K Tryz.underlying195 (by unfold maxLen; omega) (key 2 (by omega) (by omega)) (val := .func (.func 139) #[] #[]) (d := .lit (.int .i64 (139 : Nat))) (ps := []) rfl
 obtain ⟨w3, r3, m3, g3⟩ := m2.update K Tryz.underlying195 (by unfold maxLen; omega) (key 3 (by omega) (by omega)) (val := .func (.func 140) #[] #[]) (d := .lit (.int .i64 (140 : Nat))) (ps := []) rfl
 obtain ⟨v, ps, r4, hv⟩ := m3.lookup K Tryz.underlying195 (z := .nilFunc) (zd := .lit (.int .i64 (-1))) (zp := []) (by kernel_rfl) rfl (key bd h1 h2)
 have hvr : v = r := by
  rw [← hres.out]
  unfold bordF
  by_cases c1 : bd = 1
  ·subst c1; rw [if_pos rfl]; exact fnR_func hv
  ·by_cases c2 : bd = 2
   ·subst c2; rw [if_neg (by decide), if_pos rfl]; exact fnR_func hv
   ·by_cases c3 : bd = 3
    ·subst c3; rw [if_neg (by decide), if_neg (by decide), if_pos rfl]; exact fnR_func hv
    ·rw [if_neg c1, if_neg c2, if_neg c3]
     refine fnR_nil (ps := ps) ?_
     rw [hv]
     simp [DataW.put, DataW.atKey, DataW.insert, Lit.before, Lit.sameKey, List.find?, c1, c2, c3, Ne.symm c1, Ne.symm c2, Ne.symm c3]
 rw [hvr] at r4
 have hb : Below w.heap.size w w3 := ((((below_al (Below.refl _ w) _).grown g1 (by simp) (fun k e => by cases e; exact Nat.le_refl _)).grown g2 (Nat.le_trans (by simp) g1.size) (fun k e => by cases e; exact Nat.le_refl _))).grown g3 (Nat.le_trans (Nat.le_trans (by simp) g1.size) g2.size) (fun k e => by cases e; exact Nat.le_refl _)
 clear hvr hv m0 m1 m2 m3 g1 g2 g3 key K
 go_enter Tryz.func91, Tryz.ntmps91
 go_wp2_with fail
 go_ret
 exact ⟨rfl, hb⟩
end Go.Proofs.YtekiemlniegddaaGreat
namespace Go.Proofs.YtekiemlniegddaaGreat
open Go Go.RowKit Go.Shelf
attribute [local go_sem] Oper.semAt_some
theorem funcEq1 (fo : Nat) (W : World) : (binOp BinOp.eql 162 (.func (.func fo) #[] #[]) .nilFunc).run Tryz.prog W = .ok (.bool false) W := by
 have h : Tryz.prog.underlying 162 = _ := Tryz.underlying162
 have hd : Op.maxDepth = (Op.maxDepth - 1) + 1 := rfl
 simp only [binOp, Op.equal]
 rw [hd]
 simp [Op.equalIn, go_sem, run_underlying h]
theorem funcEq2 (W : World) : (binOp BinOp.eql 162 .nilFunc .nilFunc).run Tryz.prog W = .ok (.bool true) W := by
 have h : Tryz.prog.underlying 162 = _ := Tryz.underlying162
 have hd : Op.maxDepth = (Op.maxDepth - 1) + 1 := rfl
 simp only [binOp, Op.equal]
 rw [hd]
 simp [Op.equalIn, go_sem, run_underlying h]
attribute [local go_sem] funcEq1 funcEq2
/-- Term t of a convolution at (x, y). -/
def convT (bd iw ih : Int) (xs : List Int) (kw kh : Nat) (taps : List Int) (x y : Int) (t : Nat) : Int := px taps t * beyF bd iw ih xs (x + ((kw / 2 : Nat) : Int) - ((t % kw : Nat) : Int)) (y + ((kh / 2 : Nat) : Int) - ((t / kw : Nat) : Int))
def convG (bd iw ih : Int) (xs : List Int) (kw kh : Nat) (taps : List Int) (x y : Int) : Int := sumTo (convT bd iw ih xs kw kh taps x y) (kw * kh)
def sumL (f : Nat → Int) (l : List Nat) : Int := l.foldl (fun s t => s + f t) 0
theorem sumL_snoc (f : Nat → Int) (l : List Nat) (t : Nat) : sumL f (l ++ [t]) = sumL f l + f t := by unfold sumL; rw [List.foldl_append]; rfl
theorem sumL_range (f : Nat → Int) (n : Nat) : sumL f (List.range n) = sumTo f n := by
 induction n with
 | zero => rfl
 | succ n ih => rw [List.range_succ, sumL_snoc, ih]; rfl
theorem sumL_bd {f : Nat → Int} {B : Int} (h : ∀ t, -B ≤ f t ∧ f t ≤ B) : ∀ (n : Nat) (l : List Nat), l.length = n → -(B * n) ≤ sumL f l ∧ sumL f l ≤ B * n
 | 0, l, hl => by
  rw [List.eq_nil_of_length_eq_zero hl]
  simp [sumL]
 | n + 1, l, hl => by
  have hne : l ≠ [] := by rintro rfl; simp at hl
  rw [← List.dropLast_concat_getLast hne, sumL_snoc]
  have h1 := sumL_bd h n l.dropLast (by simp [hl])
  have h2 := h (l.getLast hne)
  have e : B * ((n + 1 : Nat) : Int) = B * n + B := by rw [Int.natCast_succ, Int.mul_add, Int.mul_one]
  rw [e]
  omega
def kernOk (kw kh : Int) (taps : List Int) : Bool := sidesB kw kh taps.length && allIn (-65536) 65536 taps
theorem convT_bd {xs taps : List Int} (h : allIn (-2147483648) 2147483648 xs = true) (ht : allIn (-65536) 65536 taps = true) (bd iw ih : Int) (kw kh : Nat) (x y : Int) (t : Nat) : -140737488355328 ≤ convT bd iw ih xs kw kh taps x y t ∧ convT bd iw ih xs kw kh taps x y t ≤ 140737488355328 := by
 have h1 := px_bdB (B := 65536) (by decide) ht (t : Int)
 have h2 := beyF_bd h bd iw ih (x + ((kw / 2 : Nat) : Int) - ((t % kw : Nat) : Int)) (y + ((kh / 2 : Nat) : Int) - ((t / kw : Nat) : Int))
 have h3 := mul_bd h1.1 h1.2 h2.1 h2.2 (by decide) (by decide)
 unfold convT
 omega
set_option maxRecDepth 100000 in
set_option maxHeartbeats 8000000 in
theorem Convolve1_any (bd : Int) (iw ih : Int) (a : Option Addr) (c n : Nat) (xs : List Int) (hn : Hid (xs.length = n)) (hall : Hid (allIn (-2147483648) 2147483648 xs = true)) (kw kh : Nat) (ak : Option Addr) (ck nk : Nat) (taps : List Int) (hkn : Hid (taps.length = nk)) (htall : Hid (allIn (-65536) 65536 taps = true)) (hkw : kw = 1 ∨ kw = 3 ∨ kw = 5) (hkh : kh = 1 ∨ kh = 3 ∨ kh = 5) (hns : Hid (kw * kh = nk))
  (fo : Nat) (eg : ∀ args w, (callFunc fo args).run Tryz.prog w = .ok (.enter fo args) w) (hfo : ∀ (u v : Int) (r : Int) (w : World), -100 ≤ u → u ≤ 100 → -100 ≤ v → v ≤ 100 → Hid (beyF bd iw ih xs u v = r) → Rd w.heap.size w a xs → Calls Tryz.prog fo #[imv iw ih a n c, .int .i64 u, .int .i64 v] w fun e w' => e = .returned (.int .i64 r) ∧ Below w.heap.size w w')
  (x y : Int) (bk ba bm : Nat) (W0 : World) (hx1 : 0 ≤ x) (hx2 : x ≤ 15) (hy1 : 0 ≤ y) (hy2 : y ≤ 15)
  (kk : Blk W0 bk 71 #[.int .i64 kw, .int .i64 kh, .slice ak nk ck]) (ka : Blk W0 ba 162 #[.func (.func fo) #[] #[]]) (km : Blk W0 bm 32 #[.int .i64 iw, .int .i64 ih, .slice a n c]) (hr : Rd W0.heap.size W0 a xs) (hrk : Rd W0.heap.size W0 ak taps) :
  Calls Tryz.prog 92 (#[.int .i64 x, .int .i64 y] ++ #[.pointer (some ⟨bk, 0, none⟩), .pointer (some ⟨ba, 0, none⟩), .pointer (some ⟨bm, 0, none⟩)]) W0 fun e W' => e = .returned (.int .i64 (convG bd iw ih xs kw kh taps x y)) ∧ Below W0.heap.size W0 W' := by
 have hnsP : 1 ≤ nk ∧ nk ≤ 25 := by
  have := hns.out
  rcases hkw with rfl | rfl | rfl <;> rcases hkh with rfl | rfl | rfl <;> omega
 obtain ⟨bt, ot, rfl, hbt, hbc⟩ := rd_at hrk hkn.out (by omega)
 have hbcH := Lib.hid hbc
 have hfoH := Lib.hid hfo
 clear hbc hrk hfo
 obtain ⟨hw, ehw⟩ : ∃ v, (kw : Int).tdiv 2 = v := ⟨_, rfl⟩
 obtain ⟨hh, ehh⟩ : ∃ v, (kh : Int).tdiv 2 = v := ⟨_, rfl⟩
 have hw1 : ((kw / 2 : Nat) : Int) = hw ∧ (kw : Int) / 2 = hw ∧ 0 ≤ hw ∧ hw ≤ 2 := by rw [← ehw]; rcases hkw with rfl | rfl | rfl <;> decide
 have hh1 : ((kh / 2 : Nat) : Int) = hh ∧ (kh : Int) / 2 = hh ∧ 0 ≤ hh ∧ hh ≤ 2 := by rw [← ehh]; rcases hkh with rfl | rfl | rfl <;> decide
 obtain ⟨hwe, ehw', hw2, hw3⟩ := hw1
 obtain ⟨hhe, ehh', hh2, hh3⟩ := hh1
 have hweH := Lib.hid hwe
 have hheH := Lib.hid hhe
 clear hwe hhe
 obtain ⟨TT, hTT⟩ : ∃ f, convT bd iw ih xs kw kh taps x y = f := ⟨_, rfl⟩
 have hG := Lib.hid (show convG bd iw ih xs kw kh taps x y = sumTo TT (kw * kh) by unfold convG; rw [hTT])
 have hTB := Lib.hid (fun t => (show -140737488355328 ≤ TT t ∧ TT t ≤ 140737488355328 by rw [← hTT]; exact convT_bd hall.out htall.out bd iw ih kw kh x y t))
 have hTTH := Lib.hid hTT
 clear hTT
 refine (callsIn_wide (n := 10)).1 ?_
 refine callsIn_of_wp_marks Tryz.func92 rfl trivial ?_
 simp only [Tryz.ntmps92, List.size_toArray, List.length_cons, List.length_nil, Nat.reduceAdd, Nat.reduceSub, Array.replicate_succ, Array.replicate_zero, List.push_toArray, List.append_toArray, List.nil_append, List.cons_append]
 obtain ⟨B0, hB0⟩ : ∃ B, W0.heap.size = B := ⟨_, rfl⟩
 have e0 := ((((kk).alloc (.cells #[.int .i64 x] 3)).alloc (.cells #[.int .i64 y] 3)).alloc (.cells #[.int .i64 0] 3)).cell (i := 0) rfl
 have e1' := ((((kk).alloc (.cells #[.int .i64 x] 3)).alloc (.cells #[.int .i64 y] 3)).alloc (.cells #[.int .i64 0] 3)).cell (i := 1) rfl
 gi_wp2_with fail
 clear e0 e1'
 refine ⟨trivial, (callsIn_wide.2 (places_any _ _ _)).mono ?_⟩
 rintro e w' ⟨rfl, rfl⟩
 gi_wp2_with fail
 have kx := ((((Blk.new W0 3 #[.int .i64 x]).alloc (.cells #[.int .i64 y] 3)).alloc (.cells #[.int .i64 0] 3)).alloc (.cells #[.int .i64 kw] 3)).alloc (.cells #[.int .i64 kh] 3)
 have ky := (((Blk.new ((W0).alloc (.cells #[.int .i64 x] 3)) 3 #[.int .i64 y]).alloc (.cells #[.int .i64 0] 3)).alloc (.cells #[.int .i64 kw] 3)).alloc (.cells #[.int .i64 kh] 3)
 have ko := ((Blk.new (((W0).alloc (.cells #[.int .i64 x] 3)).alloc (.cells #[.int .i64 y] 3)) 3 #[.int .i64 0]).alloc (.cells #[.int .i64 kw] 3)).alloc (.cells #[.int .i64 kh] 3)
 have kpw := (Blk.new ((((W0).alloc (.cells #[.int .i64 x] 3)).alloc (.cells #[.int .i64 y] 3)).alloc (.cells #[.int .i64 0] 3)) 3 #[.int .i64 kw]).alloc (.cells #[.int .i64 kh] 3)
 have kph := Blk.new (((((W0).alloc (.cells #[.int .i64 x] 3)).alloc (.cells #[.int .i64 y] 3)).alloc (.cells #[.int .i64 0] 3)).alloc (.cells #[.int .i64 kw] 3)) 3 #[.int .i64 kh]
 have hbw := below_al (below_al (below_al (below_al (below_al (Below.refl _ W0) (.cells #[.int .i64 x] 3)) (.cells #[.int .i64 y] 3)) (.cells #[.int .i64 0] 3)) (.cells #[.int .i64 kw] 3)) (.cells #[.int .i64 kh] 3)
 have hsz : ((((((W0).alloc (.cells #[.int .i64 x] 3)).alloc (.cells #[.int .i64 y] 3)).alloc (.cells #[.int .i64 0] 3)).alloc (.cells #[.int .i64 kw] 3)).alloc (.cells #[.int .i64 kh] 3)).heap.size = W0.heap.size + 1 + 1 + 1 + 1 + 1 := by simp
 simp only [World.size_alloc] at ky ko kpw kph
 obtain ⟨V0, hV0⟩ : ∃ V, (((((W0).alloc (.cells #[.int .i64 x] 3)).alloc (.cells #[.int .i64 y] 3)).alloc (.cells #[.int .i64 0] 3)).alloc (.cells #[.int .i64 kw] 3)).alloc (.cells #[.int .i64 kh] 3) = V := ⟨_, rfl⟩
 rw [hV0] at kx ky ko kpw kph hbw hsz ⊢
 clear hV0
 have lk := kk.lt
 have la := ka.lt
 have lm := km.lt
 rw [hB0] at lk la lm kx ky ko kpw kph hbw hsz hbt hr
 refine wpIn_rangeFunc_ownG (n := 10) rfl (by omega) (gf := 141) (lb := #[.pointer (some ⟨B0 + 1 + 1 + 1 + 1, 0, none⟩), .pointer (some ⟨B0 + 1 + 1 + 1, 0, none⟩)]) rfl trivial (enters_of Tryz.func141 (by kernel_rfl) rfl)
  (Kp := fun A B => B.heap[B0 + 1 + 1 + 1]? = A.heap[B0 + 1 + 1 + 1]?)
  (places_stopsK Fence.wide 9 trivial rfl (by omega) (B0 + 1 + 1 + 1 + 1) (B0 + 1 + 1 + 1) kw kh (by omega) (by omega) V0 (by omega) (by omega) (kph.cell rfl) (kpw.cell rfl)) (fun h k => k.trans h) (fun W l o o' hl _ _ _ => World.putObj_heap_other (by omega)) (Below.refl _ _) (fun _ => rfl)
  (fun pre W => ((Blk W B0 3 #[.int .i64 x] ∧ Blk W (B0 + 1) 3 #[.int .i64 y]) ∧ (Blk W (B0 + 2) 3 #[.int .i64 (sumL TT (pre.map Fin.val))] ∧ B0 + 5 ≤ W.heap.size)) ∧ Below B0 W0 W)
  (fun _ _ _ => False)
  (OwnFrom.and (fun s A B row hs hg hr => ⟨⟨blk_keeps hs.1.1 hg (fun r e => (hr r e).2), blk_keeps hs.1.2 hg (fun r e => (hr r e).2)⟩, blk_keeps hs.2.1 hg (fun r e => (hr r e).2), Nat.le_trans hs.2.2 hg.size⟩) (ownFrom_below (by omega) (by omega)))
  (fun _ _ _ _ _ hs _ _ => hs)
  ⟨⟨⟨kx, ky⟩, ko, by omega⟩, hbw⟩
  ?act
  ?assign ?body ?done ?stop
 case assign =>
  intro l u W K hK
  simp only [enc2]
  gi_wp2
  exact hK
 case body =>
  rintro l pre ⟨i, hi'⟩ W ⟨⟨⟨kx, ky⟩, ko, hs1⟩, hB1⟩ hlt
  have hp0 : 0 < kw := by omega
  have hx : i % kw < kw := Nat.mod_lt _ hp0
  have hy : i / kw < kh := Nat.div_lt_of_lt_mul hi'
  have hsp := idx_split kw i
  have hsn := Lib.hid (sumL_snoc TT (pre.map Fin.val) i)
  have hpre : (pre ++ [(⟨i, hi'⟩ : Fin (kw * kh))]).map Fin.val = pre.map Fin.val ++ [i] := by simp
  have hpreH := Lib.hid hpre
  clear hpre
  have hsb := sumL_bd hTB.out pre.length (pre.map Fin.val) (by simp)
  have hl25 : pre.length < nk := by rw [← hns.out]; exact hlt
  have ecX : cX kw i = ((i % kw : Nat) : Int) := rfl
  have ecY : cY kw i = ((i / kw : Nat) : Int) := rfl
  dsimp only
  rw [ecX, ecY]
  have hin : i < nk := by rw [← hns.out]; exact hi'
  have hTE : TT i = px taps i * beyF bd iw ih xs (x + hw - ((i % kw : Nat) : Int)) (y + hh - ((i / kw : Nat) : Int)) := by rw [← hTTH.out]; unfold convT; rw [hweH.out, hheH.out]
  have htap := hbcH.out i hin
  have htb := px_bdB (B := 65536) (by decide) htall.out (i : Int)
  obtain ⟨tp, htp⟩ : ∃ v, px taps (i : Int) = v := ⟨_, rfl⟩
  rw [htp] at htap htb hTE
  obtain ⟨X, hX⟩ : ∃ X, i % kw = X := ⟨_, rfl⟩
  obtain ⟨Y, hY⟩ : ∃ Y, i / kw = Y := ⟨_, rfl⟩
  rw [hX] at hx hsp hTE ⊢
  rw [hY] at hy hsp hTE ⊢
  clear hX hY ecX ecY htp
  obtain ⟨bv, hbv⟩ : ∃ v, beyF bd iw ih xs (x + hw - (X : Int)) (y + hh - (Y : Int)) = v := ⟨_, rfl⟩
  have hbb := beyF_bd hall.out bd iw ih (x + hw - (X : Int)) (y + hh - (Y : Int))
  rw [hbv] at hbb hTE
  have hbvH := Lib.hid hbv
  clear hbv
  have hmb := mul_bd htb.1 htb.2 hbb.1 hbb.2 (by decide) (by decide)
  have p3 : ((Y : Int) * (kw : Int) + (X : Int)) < (nk : Int) := by
   have e : ((Y * kw + X : Nat) : Int) = (Y : Int) * (kw : Int) + (X : Int) := by simp
   omega
  have p4 : 0 ≤ (Y : Int) * (kw : Int) := Int.mul_nonneg (by omega) (by omega)
  obtain ⟨sv, hsv⟩ : ∃ v, sumL TT (pre.map Fin.val) = v := ⟨_, rfl⟩
  rw [hsv] at ko hsb
  have hsn2 : sumL TT (pre.map Fin.val ++ [i]) = sv + tp * bv := by rw [hsn.out, hsv, hTE]
  have hsn2H := Lib.hid hsn2
  clear hsn2 hsv hsn hTE
  have hS : Below W.heap.size W W.drew := (Below.refl _ _).drew
  gi_wp2_with fail
  refine round_region (fun W' => Below W.heap.size W W') 30 31 l _ (by kernel_rfl) (by kernel_rfl) (fun ⟨_, _, h⟩ => h) rfl ?_
  simp only [Array.replicate_succ, Array.replicate_zero, List.push_toArray, List.nil_append, List.cons_append]
  refine tkz 0 (v := ?rv0) rfl hS (fun w' hS' => ?ry0) ?rz0
  case ry0 =>
   obtain ⟨a0, a1, a2⟩ := cz3 (kk.below (hB1.trans (hS'.mono (by omega))) (by omega))
   have b0 := (ka.below (hB1.trans (hS'.mono (by omega))) (by omega)).cell (i := 0) rfl
   obtain ⟨m0, m1, m2⟩ := cz3 (km.below (hB1.trans (hS'.mono (by omega))) (by omega))
   have c0 := (kx.below hS' kx.lt).cell (i := 0) rfl
   have d0 := (ky.below hS' ky.lt).cell (i := 0) rfl
   have o0 := (ko.below hS' ko.lt).cell (i := 0) rfl
   have t0 := ((hB1.trans (hS'.mono (by omega))).cell (p := ⟨bt, ot + i, none⟩) hbt).trans htap
   go_simp
   rfl
  simp only [nrz]
  refine tkz 1 rfl hS (fun w' hS' => by go_simp; rfl) ?_
  simp only [nrz]
  refine tkz 2 (v := ?rv2) rfl hS (fun w' hS' => ?ry2) ?rz2
  case ry2 =>
   obtain ⟨a0, a1, a2⟩ := cz3 (kk.below (hB1.trans (hS'.mono (by omega))) (by omega))
   have b0 := (ka.below (hB1.trans (hS'.mono (by omega))) (by omega)).cell (i := 0) rfl
   obtain ⟨m0, m1, m2⟩ := cz3 (km.below (hB1.trans (hS'.mono (by omega))) (by omega))
   have c0 := (kx.below hS' kx.lt).cell (i := 0) rfl
   have d0 := (ky.below hS' ky.lt).cell (i := 0) rfl
   have o0 := (ko.below hS' ko.lt).cell (i := 0) rfl
   have t0 := ((hB1.trans (hS'.mono (by omega))).cell (p := ⟨bt, ot + i, none⟩) hbt).trans htap
   go_simp
   rfl
  simp only [nrz]
  refine tkz 3 rfl hS (fun w' hS' => by go_simp; rfl) ?_
  simp only [nrz]
  refine tkz 4 rfl hS (fun w' hS' => by go_simp; rfl) ?_
  simp only [nrz]
  refine tkz 5 (v := ?rv5) rfl hS (fun w' hS' => ?ry5) ?rz5
  case ry5 =>
   obtain ⟨a0, a1, a2⟩ := cz3 (kk.below (hB1.trans (hS'.mono (by omega))) (by omega))
   have b0 := (ka.below (hB1.trans (hS'.mono (by omega))) (by omega)).cell (i := 0) rfl
   obtain ⟨m0, m1, m2⟩ := cz3 (km.below (hB1.trans (hS'.mono (by omega))) (by omega))
   have c0 := (kx.below hS' kx.lt).cell (i := 0) rfl
   have d0 := (ky.below hS' ky.lt).cell (i := 0) rfl
   have o0 := (ko.below hS' ko.lt).cell (i := 0) rfl
   have t0 := ((hB1.trans (hS'.mono (by omega))).cell (p := ⟨bt, ot + i, none⟩) hbt).trans htap
   go_simp
   rfl
  simp only [nrz]
  refine tkz 6 rfl hS (fun w' hS' => by go_simp; (try go_ints); rfl) ?_
  simp only [nrz]
  refine tkz 7 rfl hS (fun w' hS' => by go_simp; rfl) ?_
  simp only [nrz]
  refine tkz 8 rfl hS (fun w' hS' => by go_simp; (try go_ints); rfl) ?_
  simp only [nrz]
  refine tkz 9 (v := ?rv9) rfl hS (fun w' hS' => ?ry9) ?rz9
  case ry9 =>
   go_simp
   try go_ints
   first
   | rfl
   | rw [if_pos ⟨by omega, by omega⟩]
  simp only [nrz]
  refine tkz 10 (v := ?rv10) rfl hS (fun w' hS' => ?ry10) ?rz10
  case ry10 =>
   obtain ⟨a0, a1, a2⟩ := cz3 (kk.below (hB1.trans (hS'.mono (by omega))) (by omega))
   have b0 := (ka.below (hB1.trans (hS'.mono (by omega))) (by omega)).cell (i := 0) rfl
   obtain ⟨m0, m1, m2⟩ := cz3 (km.below (hB1.trans (hS'.mono (by omega))) (by omega))
   have c0 := (kx.below hS' kx.lt).cell (i := 0) rfl
   have d0 := (ky.below hS' ky.lt).cell (i := 0) rfl
   have o0 := (ko.below hS' ko.lt).cell (i := 0) rfl
   have t0 := ((hB1.trans (hS'.mono (by omega))).cell (p := ⟨bt, ot + i, none⟩) hbt).trans htap
   go_simp
   rfl
  simp only [nrz]
  refine tkz 11 (v := ?rv11) rfl hS (fun w' hS' => ?ry11) ?rz11
  case ry11 =>
   obtain ⟨a0, a1, a2⟩ := cz3 (kk.below (hB1.trans (hS'.mono (by omega))) (by omega))
   have b0 := (ka.below (hB1.trans (hS'.mono (by omega))) (by omega)).cell (i := 0) rfl
   obtain ⟨m0, m1, m2⟩ := cz3 (km.below (hB1.trans (hS'.mono (by omega))) (by omega))
   have c0 := (kx.below hS' kx.lt).cell (i := 0) rfl
   have d0 := (ky.below hS' ky.lt).cell (i := 0) rfl
   have o0 := (ko.below hS' ko.lt).cell (i := 0) rfl
   have t0 := ((hB1.trans (hS'.mono (by omega))).cell (p := ⟨bt, ot + i, none⟩) hbt).trans htap
   go_simp
   rfl
  simp only [nrz]
  refine tkz 12 (v := ?rv12) rfl hS (fun w' hS' => ?ry12) ?rz12
  case ry12 =>
   obtain ⟨a0, a1, a2⟩ := cz3 (kk.below (hB1.trans (hS'.mono (by omega))) (by omega))
   have b0 := (ka.below (hB1.trans (hS'.mono (by omega))) (by omega)).cell (i := 0) rfl
   obtain ⟨m0, m1, m2⟩ := cz3 (km.below (hB1.trans (hS'.mono (by omega))) (by omega))
   have c0 := (kx.below hS' kx.lt).cell (i := 0) rfl
   have d0 := (ky.below hS' ky.lt).cell (i := 0) rfl
   have o0 := (ko.below hS' ko.lt).cell (i := 0) rfl
   have t0 := ((hB1.trans (hS'.mono (by omega))).cell (p := ⟨bt, ot + i, none⟩) hbt).trans htap
   go_simp
   rfl
  simp only [nrz]
  refine tkz 13 (v := ?rv13) rfl hS (fun w' hS' => ?ry13) ?rz13
  case ry13 =>
   obtain ⟨a0, a1, a2⟩ := cz3 (kk.below (hB1.trans (hS'.mono (by omega))) (by omega))
   have b0 := (ka.below (hB1.trans (hS'.mono (by omega))) (by omega)).cell (i := 0) rfl
   obtain ⟨m0, m1, m2⟩ := cz3 (km.below (hB1.trans (hS'.mono (by omega))) (by omega))
   have c0 := (kx.below hS' kx.lt).cell (i := 0) rfl
   have d0 := (ky.below hS' ky.lt).cell (i := 0) rfl
   have o0 := (ko.below hS' ko.lt).cell (i := 0) rfl
   have t0 := ((hB1.trans (hS'.mono (by omega))).cell (p := ⟨bt, ot + i, none⟩) hbt).trans htap
   go_simp
   rfl
  simp only [nrz]
  refine tkz 14 rfl hS (fun w' hS' => by go_simp; rfl) ?_
  simp only [nrz]
  refine tkz 15 (v := ?rv15) rfl hS (fun w' hS' => ?ry15) ?rz15
  case ry15 =>
   obtain ⟨a0, a1, a2⟩ := cz3 (kk.below (hB1.trans (hS'.mono (by omega))) (by omega))
   have b0 := (ka.below (hB1.trans (hS'.mono (by omega))) (by omega)).cell (i := 0) rfl
   obtain ⟨m0, m1, m2⟩ := cz3 (km.below (hB1.trans (hS'.mono (by omega))) (by omega))
   have c0 := (kx.below hS' kx.lt).cell (i := 0) rfl
   have d0 := (ky.below hS' ky.lt).cell (i := 0) rfl
   have o0 := (ko.below hS' ko.lt).cell (i := 0) rfl
   have t0 := ((hB1.trans (hS'.mono (by omega))).cell (p := ⟨bt, ot + i, none⟩) hbt).trans htap
   go_simp
   rfl
  simp only [nrz]
  refine tkz 16 rfl hS (fun w' hS' => by go_simp; (try go_ints); rfl) ?_
  simp only [nrz]
  refine tkz 17 rfl hS (fun w' hS' => by go_simp; (try go_ints); rfl) ?_
  simp only [nrz]
  refine tkz 18 rfl hS (fun w' hS' => by go_simp; rfl) ?_
  simp only [nrz]
  refine tkz 19 rfl hS (fun w' hS' => by go_simp; (try go_ints); rfl) ?_
  simp only [nrz]
  refine tkz 20 (v := ?rv20) rfl hS (fun w' hS' => ?ry20) ?rz20
  case ry20 =>
   obtain ⟨a0, a1, a2⟩ := cz3 (kk.below (hB1.trans (hS'.mono (by omega))) (by omega))
   have b0 := (ka.below (hB1.trans (hS'.mono (by omega))) (by omega)).cell (i := 0) rfl
   obtain ⟨m0, m1, m2⟩ := cz3 (km.below (hB1.trans (hS'.mono (by omega))) (by omega))
   have c0 := (kx.below hS' kx.lt).cell (i := 0) rfl
   have d0 := (ky.below hS' ky.lt).cell (i := 0) rfl
   have o0 := (ko.below hS' ko.lt).cell (i := 0) rfl
   have t0 := ((hB1.trans (hS'.mono (by omega))).cell (p := ⟨bt, ot + i, none⟩) hbt).trans htap
   go_simp
   rfl
  simp only [nrz]
  refine tkz 21 rfl hS (fun w' hS' => by go_simp; rfl) ?_
  simp only [nrz]
  refine tkz 22 (v := ?rv22) rfl hS (fun w' hS' => ?ry22) ?rz22
  case ry22 =>
   obtain ⟨a0, a1, a2⟩ := cz3 (kk.below (hB1.trans (hS'.mono (by omega))) (by omega))
   have b0 := (ka.below (hB1.trans (hS'.mono (by omega))) (by omega)).cell (i := 0) rfl
   obtain ⟨m0, m1, m2⟩ := cz3 (km.below (hB1.trans (hS'.mono (by omega))) (by omega))
   have c0 := (kx.below hS' kx.lt).cell (i := 0) rfl
   have d0 := (ky.below hS' ky.lt).cell (i := 0) rfl
   have o0 := (ko.below hS' ko.lt).cell (i := 0) rfl
   have t0 := ((hB1.trans (hS'.mono (by omega))).cell (p := ⟨bt, ot + i, none⟩) hbt).trans htap
   go_simp
   rfl
  simp only [nrz]
  refine tkz 23 rfl hS (fun w' hS' => by go_simp; (try go_ints); rfl) ?_
  simp only [nrz]
  refine tkz 24 rfl hS (fun w' hS' => by go_simp; (try go_ints); rfl) ?_
  simp only [nrz]
  refine tkz 25 rfl hS (fun w' hS' => by go_simp; rfl) ?_
  simp only [nrz]
  refine tkz 26 rfl hS (fun w' hS' => by go_simp; (try go_ints); rfl) ?_
  simp only [nrz]
  refine step_op 27 (by kernel_rfl) rfl (fun K hK => ?_)
  rw [if_pos (by rfl)]
  go_simp
  refine (hfoH.out (x + hw - (X : Int)) (y + hh - (Y : Int)) bv _ (by omega) (by omega) (by omega) (by omega) hbvH ((hr.below (by omega) (hB1.trans (hS.mono (by omega)))).mono (by have := hS.size; omega))).mono ?_
  rintro e W1 ⟨rfl, hb1⟩
  have hS1 : Below W.heap.size W W1 := hS.trans (hb1.mono hS.size)
  refine hK.out _ _ (fun h => hS1) ?_
  clear hK K
  try simp only [Act.put, nrz]
  refine tkz 28 rfl hS1 (fun w' hS' => by go_simp; (try go_ints); rfl) ?_
  simp only [nrz]
  refine tkz 29 rfl hS1 (fun w' hS' => by go_simp; (try go_ints); rfl) ?_
  simp only [nrz]
  refine step_op 30 (by kernel_rfl) rfl (fun K hK => ?_)
  have k3o := ko.below hS1 ko.lt
  have o0 := k3o.cell (i := 0) rfl
  have fo0 := k3o.frozen 0
  rw [if_pos (by rfl)]
  go_simp
  refine hK.out _ _ (fun h => absurd h (by omega)) ?_
  clear hK K
  try simp only [Act.put, nrz]
  refine done_ops (by kernel_rfl) ?_
  have k2o := ko.below hS1 ko.lt
  have hgA : W.grownBy (W1.setCell ⟨B0 + 1 + 1, 0, none⟩ (.int .i64 (sv + tp * bv))) (some (B0 + 1 + 1)) := grown_trans (grown_of_below hS1 _) (grownBy_setCell' W1 _ _)
  exact ⟨((others_of_below hS1).trans (KeepsOthers.setCell _ _ _)).from _, hgA.block _ (by omega) (by simp), ⟨⟨kx.kept hgA (by simp <;> omega), ky.kept hgA (by simp <;> omega)⟩, by rw [hpreH.out, hsn2H.out]; exact k2o.set 0 (.int .i64 (sv + tp * bv)), Nat.le_trans hs1 hgA.size⟩, (hB1.trans (hS1.mono (by omega))).setCell (p := ⟨B0 + 1 + 1, 0, none⟩) (by simp; omega) _⟩
 case done =>
  rintro D ys W hD hys ⟨⟨⟨kx, ky⟩, ko, hs1⟩, hB1⟩ hK
  have hfin := Lib.hid (show sumL TT (ys.map Fin.val) = convG bd iw ih xs kw kh taps x y by rw [hys, sumL_range, hG.out])
  rw [hfin.out] at ko
  have c0 := ko.cell (i := 0) rfl
  gi_wp2
  refine ⟨by simp, .inl ⟨_, _, rfl, run_takeDeferred hK, ?_⟩⟩
  exact ⟨_, results_tmp rfl _ _ _, rfl, by rw [hB0]; exact hB1.trans (belowK_b (w := V0) (by omega) W D _ _ (by omega) hK rfl rfl)⟩
 case stop =>
  rintro D c pre W _ _ h _
  exact h.elim
set_option maxHeartbeats 1000000 in
theorem kernel_any (kw kh : Int) (ak : Option Addr) (ck nk : Nat) (taps : List Int) (hkn : Hid (taps.length = nk)) (r : Bool) (hres : Hid (kernOk kw kh taps = r)) (w : World) (hm : nk ≤ 9223372036854775807) (hrk : Rd w.heap.size w ak taps) :
  Calls Tryz.prog 90 #[imv kw kh ak nk ck] w fun e w' => e = .returned (.bool r) ∧ Below w.heap.size w w' := by
 obtain ⟨v1, hv1⟩ : ∃ v, sidesB kw kh nk = v := ⟨_, rfl⟩
 have h1 := Lib.hid hv1
 have hr2 := Lib.hid (show (v1 && allIn (-65536) 65536 taps) = r by rw [← hres.out, ← hv1]; unfold kernOk; rw [hkn.out])
 clear hv1
 have hB : Below w.heap.size w (w.alloc (.cells #[.int .i64 kw, .int .i64 kh, .slice ak nk ck] 71)) := below_al (Below.refl _ _) _
 have k := Blk.new w 71 #[.int .i64 kw, .int .i64 kh, .slice ak nk ck]
 obtain ⟨W, hW⟩ : ∃ W, w.alloc (.cells #[.int .i64 kw, .int .i64 kh, .slice ak nk ck] 71) = W := ⟨_, rfl⟩
 rw [hW] at hB k
 obtain ⟨m0, m1, m2⟩ := cz3 k
 go_enter Tryz.func90, Tryz.ntmps90
 go_wp2_with fail
 clear hW
 refine (sides_any kw kh nk v1 h1 W).mono ?_
 rintro e W1 ⟨rfl, hb⟩
 replace k := k.below hb k.lt
 replace hB := hB.trans (hb.mono hB.size)
 clear m0 m1 m2 hb
 obtain ⟨m0, m1, m2⟩ := cz3 k
 cases v1 with
 | false =>
  go_wp2_with fail
  go_ret
  exact ⟨ret_bool hr2.out, hB⟩
 | true =>
  go_wp2_with fail
  have hw0 := within_any (-65536) 65536 ak ck taps W1 (by rw [hkn.out]; exact hm) ((hrk.below (Nat.le_refl _) hB).mono hB.size)
  rw [hkn.out] at hw0
  refine hw0.mono ?_
  clear hw0
  rintro e w' ⟨rfl, rfl⟩
  rw [show allIn (-65536) 65536 taps = r by rw [← hr2.out]; rfl]
  go_wp2_with fail
  go_ret
  exact ⟨rfl, hB⟩
/-- What Convolve returns. -/
def convS (iw ih : Int) (xs : List Int) (kw kh : Int) (taps : List Int) (bd : Int) : ImR :=
 if vld iw ih xs = true then (if kernOk kw kh taps = true then (if decide (1 ≤ bd ∧ bd ≤ 3) = true then { w := iw, h := ih, px := img iw.toNat ih.toNat (convG bd iw ih xs kw.toNat kh.toNat taps), err := 0 } else noIm 2) else noIm 22) else noIm 20
set_option maxRecDepth 100000 in
set_option maxHeartbeats 4000000 in
theorem Convolve_any (iw ih : Int) (a : Option Addr) (c n : Nat) (xs : List Int) (hn : Hid (xs.length = n)) (kw kh : Int) (ak : Option Addr) (ck nk : Nat) (taps : List Int) (hkn : Hid (taps.length = nk)) (bd : Int) (hd1 : 0 ≤ bd) (hd2 : bd ≤ 255)
  (w : World) (hm : n ≤ 9223372036854775807) (hr : Rd w.heap.size w a xs) (hmk : nk ≤ 9223372036854775807) (hrk : Rd w.heap.size w ak taps) :
  Calls Tryz.prog 34 #[imv iw ih a n c, imv kw kh ak nk ck, .int .u8 bd] w (RetIm w.heap.size (convS iw ih xs kw kh taps bd) w) := by
 have hB0 : Below w.heap.size w (((w.alloc (.cells #[.int .i64 iw, .int .i64 ih, .slice a n c] 32)).alloc (.cells #[.int .i64 kw, .int .i64 kh, .slice ak nk ck] 71)).alloc (.cells #[.int .i64 0, .int .i64 0, .slice none 0 0] 32)) := below_al (below_al (below_al (Below.refl _ _) _) _) _
 obtain ⟨v0, hv⟩ : ∃ v, vld iw ih xs = v := ⟨_, rfl⟩
 have v0H := Lib.hid hv
 obtain ⟨v1, hv1⟩ : ∃ v, kernOk kw kh taps = v := ⟨_, rfl⟩
 have v1H := Lib.hid hv1
 obtain ⟨v2, hv2⟩ : ∃ v, decide (1 ≤ bd ∧ bd ≤ 3) = v := ⟨_, rfl⟩
 have v2H := Lib.hid hv2
 have hsp := Lib.hid (show convS iw ih xs kw kh taps bd = if v0 = true then (if v1 = true then (if v2 = true then { w := iw, h := ih, px := img iw.toNat ih.toNat (convG bd iw ih xs kw.toNat kh.toNat taps), err := 0 } else noIm 2) else noIm 22) else noIm 20 by unfold convS; rw [hv, hv1, hv2])
 clear hv hv1 hv2
 go_enter Tryz.func34, Tryz.ntmps34
 go_wp2_with fail
 refine (valid_any iw ih a c xs n hn _ hm ((hr.below (Nat.le_refl _) hB0).mono hB0.size)).mono ?_
 rintro e W1 ⟨rfl, hb1⟩
 rw [v0H.out]
 have hB1 : Below w.heap.size w W1 := hB0.trans (hb1.mono hB0.size)
 have k5 := (((Blk.new w 32 #[.int .i64 iw, .int .i64 ih, .slice a n c]).alloc (.cells #[.int .i64 kw, .int .i64 kh, .slice ak nk ck] 71)).alloc (.cells #[.int .i64 0, .int .i64 0, .slice none 0 0] 32)).below hb1 (by simp <;> omega)
 have k6 := ((Blk.new (w.alloc (.cells #[.int .i64 iw, .int .i64 ih, .slice a n c] 32)) 71 #[.int .i64 kw, .int .i64 kh, .slice ak nk ck]).alloc (.cells #[.int .i64 0, .int .i64 0, .slice none 0 0] 32)).below hb1 (by simp <;> omega)
 have k := (Blk.new ((w.alloc (.cells #[.int .i64 iw, .int .i64 ih, .slice a n c] 32)).alloc (.cells #[.int .i64 kw, .int .i64 kh, .slice ak nk ck] 71)) 32 #[.int .i64 0, .int .i64 0, .slice none 0 0]).below hb1 (by simp <;> omega)
 simp only [World.size_alloc] at k6 k
 clear hb1 hB0
 obtain ⟨m0, m1, m2⟩ := cz3 k5
 obtain ⟨s0, s1, s2⟩ := cz3 k6
 obtain ⟨c0, c1, c2⟩ := cz3 k
 have fc0 := k.frozen 0
 have fc1 := k.frozen 1
 have fc2 := k.frozen 2
 cases v0 with
 | false =>
  go_wp2_with fail
  have kf := put3_blk k (.int .i64 0) (.int .i64 0) (.slice none 0 0)
  obtain ⟨g0, g1, g2⟩ := cz3 kf
  exact bodyPost_ret (v := .tuple #[.agg #[.int .i64 0, .int .i64 0, .slice none 0 0], .int .i64 20]) (by simp [results, Tryz.results34, go_sem, g0, g1, g2]) rfl ⟨⟨_, by rw [hsp.out]; rfl, by rw [hsp.out]; exact OwnIm_nil _ _⟩, hB1.trans (put3_below (by omega) _ _ _)⟩
 | true =>
  go_wp2_with fail
  refine (kernel_any kw kh ak ck nk taps hkn v1 v1H W1 hmk ((hrk.below (Nat.le_refl _) hB1).mono hB1.size)).mono ?_
  rintro e W2 ⟨rfl, hb⟩
  have hB2 := hB1.trans (hb.mono hB1.size)
  clear m0 m1 m2
  replace k5 := k5.below hb k5.lt
  obtain ⟨m0, m1, m2⟩ := cz3 k5
  clear s0 s1 s2
  replace k6 := k6.below hb k6.lt
  obtain ⟨s0, s1, s2⟩ := cz3 k6
  clear c0 c1 c2 fc0 fc1 fc2
  replace k := k.below hb k.lt
  obtain ⟨c0, c1, c2⟩ := cz3 k
  have fc0 := k.frozen 0
  have fc1 := k.frozen 1
  have fc2 := k.frozen 2
  clear hb hB1
  cases v1 with
  | false =>
   go_wp2_with fail
   have kf := put3_blk k (.int .i64 0) (.int .i64 0) (.slice none 0 0)
   obtain ⟨g0, g1, g2⟩ := cz3 kf
   exact bodyPost_ret (v := .tuple #[.agg #[.int .i64 0, .int .i64 0, .slice none 0 0], .int .i64 22]) (by simp [results, Tryz.results34, go_sem, g0, g1, g2]) rfl ⟨⟨_, by rw [hsp.out]; rfl, by rw [hsp.out]; exact OwnIm_nil _ _⟩, hB2.trans (put3_below (by omega) _ _ _)⟩
  | true =>
   obtain ⟨fv, hfv⟩ : ∃ v, bordF bd = v := ⟨_, rfl⟩
   have hfvH := Lib.hid hfv
   clear hfv
   go_wp2_with fail
   refine (border_any bd hd1 hd2 fv hfvH W2).mono ?_
   rintro e W3 ⟨rfl, hb⟩
   have hB3 := hB2.trans (hb.mono hB2.size)
   clear m0 m1 m2
   replace k5 := k5.below hb k5.lt
   obtain ⟨m0, m1, m2⟩ := cz3 k5
   clear s0 s1 s2
   replace k6 := k6.below hb k6.lt
   obtain ⟨s0, s1, s2⟩ := cz3 k6
   clear c0 c1 c2 fc0 fc1 fc2
   replace k := k.below hb k.lt
   obtain ⟨c0, c1, c2⟩ := cz3 k
   have fc0 := k.frozen 0
   have fc1 := k.frozen 1
   have fc2 := k.frozen 2
   have hs3 := k.lt
   clear hb hB2
   -- the function's box
   have kf := Blk.new W3 162 #[fv]
   obtain ⟨B8, hB8⟩ : ∃ B, W3.heap.size = B := ⟨_, rfl⟩
   obtain ⟨W4, hW4⟩ : ∃ W4, W3.alloc (.cells #[fv] 162) = W4 := ⟨_, rfl⟩
   have hb : Below W3.heap.size W3 W4 := alloc_below hW4
   rw [hW4, hB8] at kf
   have hB4 := hB3.trans (hb.mono hB3.size)
   have k5' := k5.below hb k5.lt
   have k6' := k6.below hb k6.lt
   have k' := k.below hb k.lt
   clear m0 m1 m2 s0 s1 s2 c0 c1 c2 fc0 fc1 fc2 k5 k6 k
   have k5 := k5'
   clear k5'
   have k6 := k6'
   clear k6'
   have k := k'
   clear k'
   obtain ⟨m0, m1, m2⟩ := cz3 k5
   obtain ⟨s0, s1, s2⟩ := cz3 k6
   obtain ⟨c0, c1, c2⟩ := cz3 k
   have fc0 := k.frozen 0
   have fc1 := k.frozen 1
   have fc2 := k.frozen 2
   have f0 := kf.cell (i := 0) rfl
   cases v2 with
   | false =>
    have hfn : fv = .nilFunc := by
     have h := v2H.out
     simp only [decide_eq_false_iff_not] at h
     rw [← hfvH.out]
     unfold bordF
     rw [if_neg (by omega), if_neg (by omega), if_neg (by omega)]
    subst hfn
    subst hW4
    go_wp2_with fail
    clear hB8 hb hs3
    have kf := put3_blk k (.int .i64 0) (.int .i64 0) (.slice none 0 0)
    obtain ⟨g0, g1, g2⟩ := cz3 kf
    exact bodyPost_ret (v := .tuple #[.agg #[.int .i64 0, .int .i64 0, .slice none 0 0], .int .i64 2]) (by simp [results, Tryz.results34, go_sem, g0, g1, g2]) rfl ⟨⟨_, by rw [hsp.out]; rfl, by rw [hsp.out]; exact OwnIm_nil _ _⟩, hB4.trans (put3_below (by omega) _ _ _)⟩
   | true =>
    have hbd := v2H.out
    simp only [decide_eq_true_eq] at hbd
    obtain ⟨⟨i1, i2⟩, ⟨i3, i4⟩, hlen, hall⟩ := vld_true v0H.out
    rw [hn.out] at hlen
    have hlenH := Lib.hid hlen
    have hallH := Lib.hid hall
    clear hlen hall
    have hk0 := v1H.out
    unfold kernOk at hk0
    rw [Bool.and_eq_true, hkn.out] at hk0
    obtain ⟨s1, s2, s3⟩ := sidesB_true hk0.1
    have htall := Lib.hid hk0.2
    clear hk0
    obtain ⟨pw, rfl⟩ : ∃ pw : Nat, iw = (pw : Int) := ⟨iw.toNat, by omega⟩
    obtain ⟨ph, rfl⟩ : ∃ ph : Nat, ih = (ph : Int) := ⟨ih.toNat, by omega⟩
    obtain ⟨tw, rfl⟩ : ∃ tw : Nat, kw = (tw : Int) := ⟨kw.toNat, by omega⟩
    obtain ⟨th, rfl⟩ : ∃ th : Nat, kh = (th : Int) := ⟨kh.toNat, by omega⟩
    have htn := Lib.hid (show tw * th = nk by
     have e : ((tw * th : Nat) : Int) = (tw : Int) * (th : Int) := by simp
     omega)
    have t1 : tw = 1 ∨ tw = 3 ∨ tw = 5 := by omega
    have t2 : th = 1 ∨ th = 3 ∨ th = 5 := by omega
    clear s1 s2 s3
    have hfo : ∃ fo : Nat, fv = .func (.func fo) #[] #[] ∧ (∀ args w, (callFunc fo args).run Tryz.prog w = .ok (.enter fo args) w) ∧ ∀ (u v : Int) (r : Int) (w : World), -100 ≤ u → u ≤ 100 → -100 ≤ v → v ≤ 100 → Hid (beyF bd pw ph xs u v = r) → Rd w.heap.size w a xs → Calls Tryz.prog fo #[imv pw ph a n c, .int .i64 u, .int .i64 v] w fun e w' => e = .returned (.int .i64 r) ∧ Below w.heap.size w w' := by
     have hbb : bd = 1 ∨ bd = 2 ∨ bd = 3 := by omega
     have hfe := hfvH.out
     rcases hbb with rfl | rfl | rfl
     ·exact ⟨138, hfe.symm, enters_of Tryz.func138 (by kernel_rfl) rfl, fun u v r w h1 h2 h3 h4 h5 h6 => zero_any pw ph a c n xs hn u v w i1 i2 i3 i4 hlenH h1 h2 h3 h4 r h5 h6⟩
     ·exact ⟨139, hfe.symm, enters_of Tryz.func139 (by kernel_rfl) rfl, fun u v r w h1 h2 h3 h4 h5 h6 => near_any pw ph a c n xs hn u v w i1 i2 i3 i4 hlenH h1 h2 h3 h4 r h5 h6⟩
     ·exact ⟨140, hfe.symm, enters_of Tryz.func140 (by kernel_rfl) rfl, fun u v r w h1 h2 h3 h4 h5 h6 => wrap_any pw ph a c n xs hn u v w i1 i2 i3 i4 hlenH h1 h2 h3 h4 r h5 h6⟩
    obtain ⟨fo, rfl, eg, hfo⟩ := hfo
    have hfoH := Lib.hid hfo
    clear hfo
    go_wp2_with fail
    clear hW4 hb
    refine (made_any pw ph (by omega) (by omega) (by omega) (by omega) 92 #[.pointer (some ⟨w.heap.size + 1, 0, none⟩), .pointer (some ⟨B8, 0, none⟩), .pointer (some ⟨w.heap.size, 0, none⟩)] (enters_of Tryz.func92 (by kernel_rfl) rfl) (convG bd pw ph xs tw th taps) W4 (fun x y W hx hy hb => ?_)).mono ?_
    ·have hBW := hB4.trans (hb.mono hB4.size)
     exact Convolve1_any bd pw ph a c n xs hn hallH tw th ak ck nk taps hkn htall t1 t2 htn fo eg hfoH.out x y _ _ _ W (by omega) (by omega) (by omega) (by omega) (k6.below hb k6.lt) (kf.below hb kf.lt) (k5.below hb k5.lt) ((hr.below (Nat.le_refl _) hBW).mono hBW.size) ((hrk.below (Nat.le_refl _) hBW).mono hBW.size)
    rintro e W5 ⟨v, rfl, ⟨s, rfl, hrow⟩, hb2⟩
    clear m0 m1 m2 s0 s1 s2 c0 c1 c2 fc0 fc1 fc2 f0
    have k2 := k.below hb2 k.lt
    obtain ⟨c0, c1, c2⟩ := cz3 k2
    have fc0 := k2.frozen 0
    have fc1 := k2.frozen 1
    have fc2 := k2.frozen 2
    obtain ⟨sa, sc, rfl⟩ := row_slice hrow
    go_wp2_with fail
    have kf := put3_blk k2 (.int .i64 pw) (.int .i64 ph) (.slice sa (img pw ph (convG bd pw ph xs tw th taps)).length sc)
    obtain ⟨g0, g1, g2⟩ := cz3 kf
    exact bodyPost_ret (v := .tuple #[.agg #[.int .i64 pw, .int .i64 ph, .slice sa (img pw ph (convG bd pw ph xs tw th taps)).length sc], .int .i64 0]) (by simp [results, Tryz.results34, go_sem, g0, g1, g2]) rfl ⟨⟨_, by rw [hsp.out]; rfl, by rw [hsp.out]; exact OwnIm.weaken ⟨_, rfl, put3_row hrow (k2.not_row (by decide) hrow) _ _ _⟩ hB4.size⟩, (hB4.trans (hb2.mono hB4.size)).trans (put3_below (by omega) _ _ _)⟩
end Go.Proofs.YtekiemlniegddaaGreat
