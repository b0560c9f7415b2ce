/- The iterator over the places of an image, and the image of what a function returns for each place. -/
import Derived.Test.YtbfigbpjoaccdaaImgB
namespace Go.Proofs.Ytbfigbpjoaccdaa
open Go Go.RowKit Go.Shelf
set_option linter.unusedVariables false
set_option linter.unusedSimpArgs false

attribute [local go_sem] Oper.semAt_some

/-- The coordinates of the place with an index. -/
def cX (pw : Nat) (i : Nat) : Int := ((i % pw : Nat) : Int)
def cY (pw : Nat) (i : Nat) : Int := ((i / pw : Nat) : Int)

/-- What yield is handed for the place with an index. -/
def enc2 (pw ph : Nat) (i : Fin (pw * ph)) : Array Value := #[.int .i64 (cX pw i.val), .int .i64 (cY pw i.val)]

theorem enc2_at (pw ph x y : Nat) (hx : x < pw) (h : y * pw + x < pw * ph) : enc2 pw ph ⟨y * pw + x, h⟩ = #[.int .i64 (x : Int), .int .i64 (y : Int)] := by
  have e1 : (y * pw + x) % pw = x := by rw [Nat.mul_comm, Nat.mul_add_mod, Nat.mod_eq_of_lt hx]
  have e2 : (y * pw + x) / pw = y := by rw [Nat.mul_comm, Nat.mul_add_div (by omega), Nat.div_eq_of_lt hx]; omega
  simp only [enc2, cX, cY, e1, e2]

theorem idx_lt {pw ph x y : Nat} (hx : x < pw) (hy : y < ph) : y * pw + x < pw * ph := by
  have : y * pw + pw ≤ ph * pw := by
    have := Nat.mul_le_mul_right pw (show y + 1 ≤ ph by omega)
    rw [Nat.add_mul] at this; omega
  rw [Nat.mul_comm pw ph]; omega

theorem places_any (pw ph : Int) (w : World) :
    Calls Try.prog 69 #[.int .i64 pw, .int .i64 ph] w fun e w' => e = .returned (.func (.func 77) #[] #[.pointer (some ⟨w.heap.size + 1, 0, none⟩), .pointer (some ⟨w.heap.size, 0, none⟩)]) ∧ (w.alloc (.cells #[.int .i64 pw] 3)).alloc (.cells #[.int .i64 ph] 3) = w' := by
  go_enter Try.func69, Try.ntmps69
  go_wp2
  go_ret
  exact ⟨rfl, rfl⟩

set_option maxRecDepth 100000 in
set_option maxHeartbeats 1000000 in
theorem places1_in (F : Fence) (n : Nat) (hF : F.fn 77) (hro : F.round = none) (hn : 1 ≤ n) (l bh bw : Nat) (pw ph : Nat) (hw : pw ≤ 1000) (hh : ph ≤ 1000) (J Jx : List (Fin (pw * ph)) → World → Prop)
    (hY : ∀ pre x W, J pre W → pre.length < pw * ph → YieldAt F (n - 1) Try.prog l (enc2 pw ph x) W fun e W' =>
      (e = .returned (.bool true) ∧ J (pre ++ [x]) W' ∧ W'.heap[bw]? = W.heap[bw]?) ∨ (e = .returned (.bool false) ∧ Jx (pre ++ [x]) W'))
    (W : World) (hch : W.cell? ⟨bh, 0, none⟩ = some (.int .i64 ph)) (hcw : W.cell? ⟨bw, 0, none⟩ = some (.int .i64 pw)) (h0 : J [] W) :
    CallsIn F n Try.prog 77 #[.func (.yield l) #[] #[], .pointer (some ⟨bh, 0, none⟩), .pointer (some ⟨bw, 0, none⟩)] W fun e W' => (∃ v, e = .returned v) ∧
      ((∃ ys : List (Fin (pw * ph)), ys.map Fin.val = List.range (pw * ph) ∧ J ys W') ∨ (∃ pre : List (Fin (pw * ph)), pre.map Fin.val = List.range pre.length ∧ Jx pre W')) := by
  refine callsIn_of_wp Try.func77 rfl hF ?_ hro
  simp only [Try.ntmps77, List.size_toArray, List.length_cons, List.length_nil, Nat.reduceAdd, Nat.reduceSub, Array.replicate_succ, Array.replicate_zero, List.push_toArray, List.append_toArray, List.nil_append, List.cons_append]
  gi_wp2
  gi_loopw [4, 5, 7, 8, 9, 10, 11, 12, 13, 14, 15, 16, 17, 18, 19, 20] (fun _ _ i _ _ _ _ _ _ _ _ _ _ _ _ _ wr => ∃ (y : Nat) (pre : List (Fin (pw * ph))), y ≤ ph ∧ i = .int .i64 y ∧ pre.map Fin.val = List.range (y * pw) ∧ J pre wr ∧ wr.heap[bw]? = W.heap[bw]?)
    (fun _ _ i _ _ _ _ _ _ _ _ _ _ _ _ _ _ => ph - (intOf i).toNat)
  case atStart =>
    exact ⟨0, [], by omega, rfl, by simp, h0, rfl⟩
  case round =>
    obtain ⟨y, pre, hy, rfl, hp, hJ, hB⟩ := hrel
    by_cases hlt : y < ph
    · have hcw' := (World.cell?_of_block (a := ⟨bw, 0, none⟩) hB).trans hcw
      have hpH := Lib.hid hp
      clear hp
      gi_wp2
      obtain ⟨wo, rfl⟩ : ∃ wo : World, wo = wr := ⟨_, rfl⟩
      gi_loopw [5, 11] (fun _ i wr => ∃ (x : Nat) (pre : List (Fin (pw * ph))), x ≤ pw ∧ i = .int .i64 x ∧ Hid (pre.map Fin.val = List.range (y * pw + x)) ∧ J pre wr ∧ wr.heap[bw]? = W.heap[bw]?)
        (fun _ i _ => pw - (intOf i).toNat)
      case atStart =>
        exact ⟨0, pre, by omega, rfl, hpH, hJ, hB⟩
      case round =>
        obtain ⟨x, pre2, hx, rfl, hp2, hJ2, hB2⟩ := hrel
        by_cases hltx : x < pw
        · have hi := idx_lt hltx hlt
          have hlen : pre2.length < pw * ph := by
            have := congrArg List.length hp2.out
            simp at this; omega
          obtain ⟨fn, tmps, assign, body, hyy, hR⟩ := hY pre2 ⟨y * pw + x, hi⟩ wr hJ2 hlen
          rw [enc2_at pw ph x y hltx hi] at hyy
          gi_wp2
          refine hR.mono ?_
          rintro e W3 (⟨rfl, hJ3, hk3⟩ | ⟨rfl, hJx3⟩)
          · gi_wp2
            go_roundw
            case rel => exact ⟨x + 1, pre2 ++ [⟨y * pw + x, hi⟩], by omega, by go_num, Lib.hid (by rw [List.map_append, hp2.out, ← Nat.add_assoc, List.range_succ]; rfl), hJ3, hk3.trans hB2⟩
            case measure => simp [intOf]; omega
          · gi_wp2
            refine bodyPost_ret (results_none rfl _ _ _) rfl ?_
            refine ⟨⟨_, rfl⟩, .inr ⟨pre2 ++ [⟨y * pw + x, hi⟩], ?_, hJx3⟩⟩
            have hl := congrArg List.length hp2.out
            simp at hl
            rw [List.map_append, hp2.out, List.length_append, hl]
            simp [List.range_succ]
        · gi_wp2
          go_roundw
          case rel =>
            refine ⟨y + 1, pre2, by omega, by go_num, ?_, hJ2, hB2⟩
            have : x = pw := by omega
            rw [hp2.out, this, Nat.add_mul]; simp
          case measure => simp [intOf]; omega
    · gi_wp2
      go_end0
      refine ⟨⟨_, rfl⟩, .inl ⟨pre, ?_, hJ⟩⟩
      have : y = ph := by omega
      rw [hp, this, Nat.mul_comm]

/-- The value that 'places' returns is an iterator over all places, in order. -/
theorem places_stopsK (F : Fence) (n : Nat) (hF : F.fn 77) (hro : F.round = none) (hn : 1 ≤ n) (bh bw : Nat) (pw ph : Nat) (hw : pw ≤ 1000) (hh : ph ≤ 1000) (w : World) (hb1 : bh < w.heap.size) (hb2 : bw < w.heap.size)
    (hch : w.cell? ⟨bh, 0, none⟩ = some (.int .i64 ph)) (hcw : w.cell? ⟨bw, 0, none⟩ = some (.int .i64 pw)) :
    SeqStopsK F n Try.prog 77 #[.pointer (some ⟨bh, 0, none⟩), .pointer (some ⟨bw, 0, none⟩)] (enc2 pw ph) (fun A B => B.heap[bw]? = A.heap[bw]?) (fun ys => ys.map Fin.val = List.range (pw * ph)) (fun pre => pre.map Fin.val = List.range pre.length) (pw * ph) w := fun l J Jx W hW _ _ hY h0 =>
  places1_in F n hF hro hn l bh bw pw ph hw hh J Jx hY W ((hW.cell (p := ⟨bh, 0, none⟩) hb1).trans hch) ((hW.cell (p := ⟨bw, 0, none⟩) hb2).trans hcw) h0


theorem info_int : (Try.prog.info? 3).map (fun i => (i.zero, i.size, i.bytes)) = some (some (.int .i64 0), 1, 8) := by kernel_rfl

/-- The values of an image that a function makes. -/
def img (pw ph : Nat) (g : Int → Int → Int) : List Int := (List.range (pw * ph)).map fun i => clamp (g (cX pw i) (cY pw i)) (-2147483648) 2147483648

theorem img_length (pw ph : Nat) (g : Int → Int → Int) : (img pw ph g).length = pw * ph := by simp [img]

def imgPart (pw ph : Nat) (g : Int → Int → Int) (pre : List (Fin (pw * ph))) : List Int := pre.map fun i => clamp (g (cX pw i.val) (cY pw i.val)) (-2147483648) 2147483648

theorem imgPart_all {pw ph : Nat} {g : Int → Int → Int} {ys : List (Fin (pw * ph))} (h : ys.map Fin.val = List.range (pw * ph)) : imgPart pw ph g ys = img pw ph g := by
  unfold imgPart img
  rw [← h, List.map_map]
  rfl

/-- A value of an image type whose pixels lie in new memory of the call's own, from block B on. -/
def OwnIm (B : Nat) (W : World) (v : Value) (iw ih : Int) (xs : List Int) : Prop :=
  ∃ s, v = .agg #[.int .i64 iw, .int .i64 ih, s] ∧ W.ownsRow B 3 1 s xs.length (xs.map (Value.int .i64))

theorem row_len {W : World} {base : Nat} {e : TypeId} {size : Nat} {v : Value} {k m : Nat} {xs : List Value} (hk : k = m) (h : W.ownsRow base e size v k xs) : W.ownsRow base e size v m xs := hk ▸ h

set_option maxRecDepth 100000 in
set_option maxHeartbeats 2000000 in
theorem made_any (pw ph : Nat) (h1 : 1 ≤ pw) (h2 : pw ≤ 16) (h3 : 1 ≤ ph) (h4 : ph ≤ 16) (fo : Nat) (lb : Array Value) (eg : ∀ args w, (callFunc fo args).run Try.prog w = .ok (.enter fo args) w) (g : Int → Int → Int) (w : World)
    (hof : ∀ (x y : Nat) (W : World), x < pw → y < ph → Below w.heap.size w W → Calls Try.prog fo (#[.int .i64 x, .int .i64 y] ++ lb) W fun e W' => e = .returned (.int .i64 (g x y)) ∧ Below W.heap.size W W') :
    Calls Try.prog 51 #[.int .i64 pw, .int .i64 ph, .func (.func fo) #[] lb] w fun e W' => ∃ v, e = .returned v ∧ OwnIm w.heap.size W' v pw ph (img pw ph g) ∧ Below w.heap.size w W' := by
  obtain ⟨i0, hi, hz0, hz1, hz2⟩ := info_parts info_int
  obtain ⟨m1, m2⟩ := mul_small (a := (pw : Int)) (b := (ph : Int)) (m := 16) (n := 16) (by omega) (by omega) (by omega) (by omega)
  refine (callsIn_wide (n := 10)).1 ?_
  refine callsIn_of_wp_marks Try.func51 rfl trivial ?_
  simp only [Try.ntmps51, List.size_toArray, List.length_cons, List.length_nil, Nat.reduceAdd, Nat.reduceSub, Array.replicate_succ, Array.replicate_zero, List.push_toArray, List.append_toArray, List.nil_append, List.cons_append]
  gi_wp2_with (gi_at_make; refine wpListIn_make_own _ rfl _ _ 25 rfl w.heap.size 3 i0 (.int .i64 0) 1 Try.underlying25 hi hz0 hz1 .i64 .i64 (pw * ph : Int) (pw * ph) rfl rfl (by simp) (by rw [hz2]; omega) (by unfold maxLen; omega) (by simp <;> omega) ?_; intro w1 hown hg)
  refine ⟨trivial, (callsIn_wide.2 (places_any _ _ _)).mono ?_⟩
  rintro e w' ⟨rfl, rfl⟩
  gi_wp2_with fail
  -- the world in which the loop begins
  have hsz1 := hg.size
  have hrl := hown.lt _ rfl
  have k5 := (((Blk.new w 101 #[.func (.func fo) #[] lb]).alloc (.cells #[.int .i64 0, .int .i64 0, .slice none 0 0] 27)).kept hg (by simp))
  have k6 := ((Blk.new (w.alloc (.cells #[.func (.func fo) #[] lb] 101)) 27 #[.int .i64 0, .int .i64 0, .slice none 0 0]).kept hg (by simp))
  have hb1 : Below w.heap.size w w1 := (((Below.refl _ w).alloc (Nat.le_refl _) _).alloc (by simp) _).grown hg (by simp <;> omega) (fun k e => by cases e)
  simp only [World.size_alloc] at hsz1 hrl k6 hown
  obtain ⟨M, hM⟩ : ∃ M, w1.heap.size = M := ⟨_, rfl⟩
  have kM := Blk.new w1 27 #[.int .i64 pw, .int .i64 ph, .slice (some ⟨w.heap.size + 1 + 1, 0, none⟩) 0 (pw * ph)]
  have kw := Blk.new (w1.alloc (.cells #[.int .i64 pw, .int .i64 ph, .slice (some ⟨w.heap.size + 1 + 1, 0, none⟩) 0 (pw * ph)] 27)) 3 #[.int .i64 pw]
  have kh := Blk.new ((w1.alloc (.cells #[.int .i64 pw, .int .i64 ph, .slice (some ⟨w.heap.size + 1 + 1, 0, none⟩) 0 (pw * ph)] 27)).alloc (.cells #[.int .i64 pw] 3)) 3 #[.int .i64 ph]
  have hB3 := ((hb1.alloc (by omega) (.cells #[.int .i64 pw, .int .i64 ph, .slice (some ⟨w.heap.size + 1 + 1, 0, none⟩) 0 (pw * ph)] 27)).alloc (by simp <;> omega) (.cells #[.int .i64 pw] 3)).alloc (by simp <;> omega) (.cells #[.int .i64 ph] 3)
  have k5' := ((k5.alloc (.cells #[.int .i64 pw, .int .i64 ph, .slice (some ⟨w.heap.size + 1 + 1, 0, none⟩) 0 (pw * ph)] 27)).alloc (.cells #[.int .i64 pw] 3)).alloc (.cells #[.int .i64 ph] 3)
  have k6' := ((k6.alloc (.cells #[.int .i64 pw, .int .i64 ph, .slice (some ⟨w.heap.size + 1 + 1, 0, none⟩) 0 (pw * ph)] 27)).alloc (.cells #[.int .i64 pw] 3)).alloc (.cells #[.int .i64 ph] 3)
  have kM' := (kM.alloc (.cells #[.int .i64 pw] 3)).alloc (.cells #[.int .i64 ph] 3)
  have kw' := kw.alloc (.cells #[.int .i64 ph] 3)
  have row' := ((hown.alloc (.cells #[.int .i64 pw, .int .i64 ph, .slice (some ⟨w.heap.size + 1 + 1, 0, none⟩) 0 (pw * ph)] 27)).alloc (.cells #[.int .i64 pw] 3)).alloc (.cells #[.int .i64 ph] 3)
  have hsz : (((w1.alloc (.cells #[.int .i64 pw, .int .i64 ph, .slice (some ⟨w.heap.size + 1 + 1, 0, none⟩) 0 (pw * ph)] 27)).alloc (.cells #[.int .i64 pw] 3)).alloc (.cells #[.int .i64 ph] 3)).heap.size = M + 3 := by simp <;> omega
  simp only [World.size_alloc, hM] at kM' kw' kh hrl
  clear k5 k6 kM kw hown hg hb1 hsz1
  rw [hM]
  obtain ⟨W0, hW0⟩ : ∃ W0, ((w1.alloc (.cells #[.int .i64 pw, .int .i64 ph, .slice (some ⟨w.heap.size + 1 + 1, 0, none⟩) 0 (pw * ph)] 27)).alloc (.cells #[.int .i64 pw] 3)).alloc (.cells #[.int .i64 ph] 3) = W0 := ⟨_, rfl⟩
  rw [hW0] at k5' k6' kM' kw' kh row' hB3 hsz ⊢
  clear hW0
  refine wpIn_rangeFunc_ownG (n := 10) rfl (by omega) (gf := 77) (lb := #[.pointer (some ⟨M + 1 + 1, 0, none⟩), .pointer (some ⟨M + 1, 0, none⟩)]) rfl trivial (enters_of Try.func77 (by kernel_rfl) rfl)
    (Kp := fun A B => B.heap[M + 1]? = A.heap[M + 1]?)
    (places_stopsK Fence.wide 9 trivial rfl (by omega) (M + 1 + 1) (M + 1) pw ph (by omega) (by omega) W0 (by omega) (by omega) (kh.cell rfl) (kw'.cell rfl)) (fun h k => k.trans h) (fun W l o o' hl _ _ _ => World.putObj_heap_other (by omega)) (Below.refl _ _) (fun _ => rfl)
    (fun pre W => ((Blk W M 27 #[.int .i64 pw, .int .i64 ph, .slice (some ⟨w.heap.size + 1 + 1, 0, none⟩) pre.length (pw * ph)] ∧ W.ownsRow w.heap.size 3 1 (.slice (some ⟨w.heap.size + 1 + 1, 0, none⟩) pre.length (pw * ph)) pre.length ((imgPart pw ph g pre).map (Value.int .i64))) ∧ Blk W w.heap.size 101 #[.func (.func fo) #[] lb] ∧ Blk W (w.heap.size + 1) 27 #[.int .i64 0, .int .i64 0, .slice none 0 0] ∧ M + 3 ≤ W.heap.size) ∧ Below w.heap.size w W)
    (fun _ _ _ => False)
    (OwnFrom.and (fun s A B row hs hg hr => ⟨⟨blk_keeps hs.1.1 hg (fun r e => (hr r e).2), row_keeps hs.1.2 hg (fun r e => (hr r e).2)⟩, blk_keeps hs.2.1 hg (fun r e => (hr r e).2), blk_keeps hs.2.2.1 hg (fun r e => (hr r e).2), Nat.le_trans hs.2.2.2 hg.size⟩) (ownFrom_below (Nat.le_refl _) (by omega)))
    (fun _ _ _ _ _ hs _ _ => hs)
    ⟨⟨⟨kM', row'⟩, k5', k6', by omega⟩, hB3⟩
    (fun x => { tmps := #[.int .i64 pw, .int .i64 ph, .func (.func fo) #[] lb, undef, undef, .pointer (some ⟨w.heap.size, 0, none⟩), .pointer (some ⟨w.heap.size + 1, 0, none⟩), .pointer (some ⟨M, 0, none⟩), .int .i64 (cX pw x.val), .int .i64 (cY pw x.val), .int .i64 pw, .int .i64 ph, .int .i64 pw, .int .i64 ph, .int .i64 (pw * ph), .slice (some ⟨w.heap.size + 1 + 1, 0, none⟩) 0 (pw * ph), .agg #[.int .i64 pw, .int .i64 ph, .slice (some ⟨w.heap.size + 1 + 1, 0, none⟩) 0 (pw * ph)], .int .i64 pw, .int .i64 ph, .func (.func 77) #[] #[.pointer (some ⟨M + 1 + 1, 0, none⟩), .pointer (some ⟨M + 1, 0, none⟩)], .int .i64 (cX pw x.val), .int .i64 (cY pw x.val), undef, undef, undef, undef, undef, undef, undef, undef, undef, undef, undef], defers := [] }) ?assign ?body ?done ?stop
  case assign =>
    intro l x W K hK
    simp only [enc2]
    gi_wp2
    exact hK
  case body =>
    rintro l pre ⟨i, hi'⟩ W ⟨⟨⟨kM1, row1⟩, k51, k61, hs1⟩, hB1⟩ hlt
    have hx : i % pw < pw := Nat.mod_lt _ (by omega)
    have hy : i / pw < ph := Nat.div_lt_of_lt_mul hi'
    have hof1 := Lib.hid (fun W h => hof (i % pw) (i / pw) W hx hy h)
    have ecX : cX pw i = ((i % pw : Nat) : Int) := rfl
    have ecY : cY pw i = ((i / pw : Nat) : Int) := rfl
    rw [← ecX, ← ecY] at hof1
    have hgrow : imgPart pw ph g (pre ++ [⟨i, hi'⟩]) = imgPart pw ph g pre ++ [clamp (g (cX pw i) (cY pw i)) (-2147483648) 2147483648] := by simp [imgPart]
    have hgrowH := Lib.hid hgrow
    clear hof hgrow
    clear ecX ecY
    dsimp only
    generalize cX pw i = xx at *
    generalize cY pw i = yy at *
    have hroom : pre.length + 1 ≤ pw * ph := hlt
    gi_wp2_with fail
    have hS : W.grownBy W.drew (some (w.heap.size + 1 + 1)) := ⟨rfl, rfl, rfl, Nat.le_refl _, fun _ _ _ => rfl⟩
    refine round_region (fun W' => W.grownBy W' (some (w.heap.size + 1 + 1))) 10 11 l _ (by kernel_rfl) (by kernel_rfl) (fun ⟨_, _, h⟩ => h) rfl ?_
    simp only [Array.replicate_succ, Array.replicate_zero, List.push_toArray, List.nil_append, List.cons_append]
    refine take_op 0 (v := ?v0) rfl (by kernel_rfl) (fun _ _ _ h => h) (by rfl) hS (fun w' hS' => ?hy0) ?rest0
    case hy0 =>
      go_simp
      rfl
    simp only [List.setIfInBounds_toArray, List.set_cons_zero, List.set_cons_succ]
    refine take_op 1 (v := ?v1) rfl (by kernel_rfl) (fun _ _ _ h => h) (by rfl) hS (fun w' hS' => ?hy1) ?rest1
    case hy1 =>
      have c1 := (kM1.kept hS' (by simp <;> omega)).cell (i := 2) rfl
      go_simp
      rfl
    simp only [List.setIfInBounds_toArray, List.set_cons_zero, List.set_cons_succ]
    refine take_op 2 (v := ?v2) rfl (by kernel_rfl) (fun _ _ _ h => h) (by rfl) hS (fun w' hS' => ?hy2) ?rest2
    case hy2 =>
      have c1 := (k51.kept hS' (by simp <;> omega)).cell (i := 0) rfl
      go_simp
      rfl
    simp only [List.setIfInBounds_toArray, List.set_cons_zero, List.set_cons_succ]
    refine take_op 3 (v := ?v3) rfl (by kernel_rfl) (fun _ _ _ h => h) (by rfl) hS (fun w' hS' => ?hy3) ?rest3
    case hy3 =>
      go_simp
      rfl
    simp only [List.setIfInBounds_toArray, List.set_cons_zero, List.set_cons_succ]
    refine take_op 4 (v := ?v4) rfl (by kernel_rfl) (fun _ _ _ h => h) (by rfl) hS (fun w' hS' => ?hy4) ?rest4
    case hy4 =>
      go_simp
      rfl
    simp only [List.setIfInBounds_toArray, List.set_cons_zero, List.set_cons_succ]
    refine step_op 5 (by kernel_rfl) rfl (fun K hK => ?_)
    rw [if_pos (by rfl)]
    go_simp
    refine (hof1.out W.drew (hB1.trans ((Below.refl _ W).drew.mono hB1.size))).mono ?_
    rintro e W1 ⟨rfl, hb1⟩
    have hb2 : Below W.heap.size W W1 := (Below.refl _ W).drew.trans hb1
    have hS1 : W.grownBy W1 (some (w.heap.size + 1 + 1)) := grown_of_below hb2 _
    refine hK.out _ _ (fun _ => hS1) ?_
    clear hK K
    simp only [Act.put, List.setIfInBounds_toArray, List.set_cons_zero, List.set_cons_succ]
    refine step_op 6 (by kernel_rfl) rfl (fun K hK => ?_)
    rw [if_pos (by rfl)]
    go_simp
    refine (value_any _ _).mono ?_
    rintro e W2 ⟨rfl, rfl⟩
    refine hK.out _ _ (fun _ => hS1) ?_
    clear hK K
    simp only [Act.put, List.setIfInBounds_toArray, List.set_cons_zero, List.set_cons_succ]
    generalize clamp (g xx yy) (-2147483648) 2147483648 = z at *
    refine step_op 7 (by kernel_rfl) rfl (fun K hK => ?_)
    rw [if_pos (by rfl)]
    go_simp
    have hb3 : Below W.heap.size W (W1.alloc (.cells #[.int .i64 z] 3)) := hb2.alloc hb2.size _
    refine hK.out _ _ (fun _ => grown_of_below hb3 _) ?_
    clear hK K
    simp only [Act.put, List.setIfInBounds_toArray, List.set_cons_zero, List.set_cons_succ]
    refine step_op 8 (by kernel_rfl) rfl (fun K hK => ?_)
    refine step_append_fits rfl (.tmp 23) (.tmp 29) 25 rfl w.heap.size 3 i0 1 Try.underlying25 hi hz1 (w.heap.size + 1 + 1) pre.length (pw * ph) ((imgPart pw ph g pre).map (Value.int .i64)) rfl (row_below row1 hb3) ⟨W1.heap.size, 0, none⟩ 1 1 [.int .i64 z] rfl rfl (cell_one_new _ _ _) (by simp [Value.oneCell']) hroom ?_
    intro W3 hown3 hg3
    have hgA : W.grownBy W3 (some (w.heap.size + 1 + 1)) := grown_trans (grown_of_below hb3 _) hg3
    refine hK.out _ _ (fun _ => hgA) ?_
    clear hK K
    simp only [Act.put, List.setIfInBounds_toArray, List.set_cons_zero, List.set_cons_succ]
    refine take_op 9 (v := ?v9) rfl (by kernel_rfl) (fun _ _ _ h => h) (by rfl) hgA (fun w' hS' => ?hy9) ?rest9
    case hy9 =>
      go_simp
      rfl
    simp only [List.setIfInBounds_toArray, List.set_cons_zero, List.set_cons_succ]
    have kM3 := kM1.kept hgA (by simp <;> omega)
    have cM3 := kM3.cell (i := 2) rfl
    have fM3 := kM3.frozen 2
    refine step_op 10 (by kernel_rfl) rfl (fun K hK => ?_)
    rw [if_pos (by rfl)]
    go_simp
    refine hK.out _ _ (fun h => absurd h (by omega)) ?_
    clear hK K
    refine done_ops (by kernel_rfl) ?_
    have hgs : W.heap.size ≤ W3.heap.size := hgA.size
    refine ⟨((others_of_row row1 hgA).trans (KeepsOthers.setCell _ _ _)).from _, (Below.heap_setCell _ _ _ _ (by simp)).trans (hgA.block _ (by omega) (by simp <;> omega)), ⟨⟨?_, ?_⟩, ?_, ?_, ?_⟩, ?_⟩
    · have := kM3.set 2 (.slice (some ⟨w.heap.size + 1 + 1, 0, none⟩) (pre.length + 1) (pw * ph))
      simpa using this
    · have := row_setCell hown3 (a := ⟨M, 2, none⟩) (by simp [Value.ownBlock] <;> omega) (.slice (some ⟨w.heap.size + 1 + 1, 0, none⟩) (pre.length + 1) (pw * ph))
      rw [hgrowH.out]
      simpa using this
    · exact (k51.kept hgA (by simp <;> omega)).other (by simp <;> omega) _
    · exact (k61.kept hgA (by simp <;> omega)).other (by simp <;> omega) _
    · simp [World.setCell]; omega
    · exact (hB1.trans (below_of_row (n := w.heap.size) row1 hgA (Nat.le_refl _) hB1.size)).setCell (p := ⟨M, 2, none⟩) (by simp <;> omega) _
  case done =>
    rintro D ys W hD hys ⟨⟨⟨kM1, row1⟩, k51, k61, hs1⟩, hB1⟩ hK
    have c0 := kM1.cell (i := 0) rfl
    have c1 := kM1.cell (i := 1) rfl
    have c2 := kM1.cell (i := 2) rfl
    have d0 := k61.cell (i := 0) rfl
    have d1 := k61.cell (i := 1) rfl
    have d2 := k61.cell (i := 2) rfl
    have f0 := k61.frozen 0
    have f1 := k61.frozen 1
    have f2 := k61.frozen 2
    gi_wp2
    have hD1 : w.heap.size + 1 ≠ D := by omega
    have hKf : (((W.setCell ⟨w.heap.size + 1, 0, none⟩ (.int .i64 pw)).setCell ⟨w.heap.size + 1, 1, none⟩ (.int .i64 ph)).setCell ⟨w.heap.size + 1, 2, none⟩ (.slice (some ⟨w.heap.size + 1 + 1, 0, none⟩) ys.length (pw * ph))).heap[D]? = some (.deferred (some [])) :=
      (Below.heap_setCell _ _ _ _ (fun e => hD1 e.symm)).trans ((Below.heap_setCell _ _ _ _ (fun e => hD1 e.symm)).trans ((Below.heap_setCell _ _ _ _ (fun e => hD1 e.symm)).trans hK))
    have kf := (((k61.set 0 (.int .i64 pw)).set 1 (.int .i64 ph)).set 2 (.slice (some ⟨w.heap.size + 1 + 1, 0, none⟩) ys.length (pw * ph))).putObj hD1 (.deferred none)
    have g0 := kf.cell (i := 0) (v := .int .i64 pw) (by simp)
    have g1 := kf.cell (i := 1) (v := .int .i64 ph) (by simp)
    have g2 := kf.cell (i := 2) (v := .slice (some ⟨w.heap.size + 1 + 1, 0, none⟩) ys.length (pw * ph)) (by simp)
    refine ⟨by simp, .inl ⟨_, _, rfl, run_takeDeferred hKf, ?_⟩⟩
    have hlen : ys.length = pw * ph := by have := congrArg List.length hys; simpa using this
    have rowf := ownsRow_putObj (row_setCell (row_setCell (row_setCell row1 (a := ⟨w.heap.size + 1, 0, none⟩) (by simp [Value.ownBlock]) (.int .i64 pw)) (a := ⟨w.heap.size + 1, 1, none⟩) (by simp [Value.ownBlock]) (.int .i64 ph)) (a := ⟨w.heap.size + 1, 2, none⟩) (by simp [Value.ownBlock]) (.slice (some ⟨w.heap.size + 1 + 1, 0, none⟩) ys.length (pw * ph))) (.deferred none) hKf rfl
    refine ⟨.agg #[.int .i64 pw, .int .i64 ph, .slice (some ⟨w.heap.size + 1 + 1, 0, none⟩) ys.length (pw * ph)], by simp [results, Try.results51, go_sem, g0, g1, g2], _, rfl, ⟨_, rfl, ?_⟩, ?_⟩
    · rw [imgPart_all hys] at rowf
      rw [img_length]
      exact row_len hlen rowf
    · exact (((hB1.setCell (p := ⟨w.heap.size + 1, 0, none⟩) (by simp) _).setCell (p := ⟨w.heap.size + 1, 1, none⟩) (by simp) _).setCell (p := ⟨w.heap.size + 1, 2, none⟩) (by simp) _).trans (belowK_b (w := w) (Nat.le_refl _) _ D _ _ (by omega) hKf rfl rfl)
  case stop =>
    rintro D c pre W _ _ h _
    exact h.elim

end Go.Proofs.Ytbfigbpjoaccdaa
