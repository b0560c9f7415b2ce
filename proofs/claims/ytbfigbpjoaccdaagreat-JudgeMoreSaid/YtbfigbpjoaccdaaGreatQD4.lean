/- Contracts and laws (ImgC, ImgD, ImgE, ImgF, ImgH, ImgI). -/
import Derived.Laws.AppendOwnNone
import Derived.Test.YtbfigbpjoaccdaaGreatQD1
namespace Go.Proofs.YtbfigbpjoaccdaaGreat
open Go Go.RowKit Go.Shelf
set_option linter.unusedVariables false
set_option linter.unusedSimpArgs false

attribute [local go_sem] Oper.semAt_some

/-- The coordinates of the place with an index. -/
def cX (pw : Nat) (i : Nat) : Int := ((i % pw : Nat) : Int)
def cY (pw : Nat) (i : Nat) : Int := ((i / pw : Nat) : Int)

/-- What yield is handed for the place with an index. -/
def enc2 (pw ph : Nat) (i : Fin (pw * ph)) : Array Value := #[.int .i64 (cX pw i.val), .int .i64 (cY pw i.val)]

theorem enc2_at (pw ph x y : Nat) (hx : x < pw) (h : y * pw + x < pw * ph) : enc2 pw ph ⟨y * pw + x, h⟩ = #[.int .i64 (x : Int), .int .i64 (y : Int)] := by
  have e1 : (y * pw + x) % pw = x := by rw [Nat.mul_comm, Nat.mul_add_mod, Nat.mod_eq_of_lt hx]
  have e2 : (y * pw + x) / pw = y := by rw [Nat.mul_comm, Nat.mul_add_div (by omega), Nat.div_eq_of_lt hx]; omega
  simp only [enc2, cX, cY, e1, e2]

theorem idx_lt {pw ph x y : Nat} (hx : x < pw) (hy : y < ph) : y * pw + x < pw * ph := by
  have : y * pw + pw ≤ ph * pw := by
    have := Nat.mul_le_mul_right pw (show y + 1 ≤ ph by omega)
    rw [Nat.add_mul] at this; omega
  rw [Nat.mul_comm pw ph]; omega

theorem places_any (pw ph : Int) (w : World) :
    Calls Tryz.prog 120 #[.int .i64 pw, .int .i64 ph] w fun e w' => e = .returned (.func (.func 146) #[] #[.pointer (some ⟨w.heap.size + 1, 0, none⟩), .pointer (some ⟨w.heap.size, 0, none⟩)]) ∧ (w.alloc (.cells #[.int .i64 pw] 3)).alloc (.cells #[.int .i64 ph] 3) = w' := by
  go_enter Tryz.func120, Tryz.ntmps120
  go_wp2
  go_ret
  exact ⟨rfl, rfl⟩

set_option maxRecDepth 100000 in
set_option maxHeartbeats 1000000 in
theorem places1_in (F : Fence) (n : Nat) (hF : F.fn 146) (hro : F.round = none) (hn : 1 ≤ n) (l bh bw : Nat) (pw ph : Nat) (hw : pw ≤ 1000) (hh : ph ≤ 1000) (J Jx : List (Fin (pw * ph)) → World → Prop)
    (hY : ∀ pre x W, J pre W → pre.length < pw * ph → YieldAt F (n - 1) Tryz.prog l (enc2 pw ph x) W fun e W' =>
      (e = .returned (.bool true) ∧ J (pre ++ [x]) W' ∧ W'.heap[bw]? = W.heap[bw]?) ∨ (e = .returned (.bool false) ∧ Jx (pre ++ [x]) W'))
    (W : World) (hch : W.cell? ⟨bh, 0, none⟩ = some (.int .i64 ph)) (hcw : W.cell? ⟨bw, 0, none⟩ = some (.int .i64 pw)) (h0 : J [] W) :
    CallsIn F n Tryz.prog 146 #[.func (.yield l) #[] #[], .pointer (some ⟨bh, 0, none⟩), .pointer (some ⟨bw, 0, none⟩)] W fun e W' => (∃ v, e = .returned v) ∧
      ((∃ ys : List (Fin (pw * ph)), ys.map Fin.val = List.range (pw * ph) ∧ J ys W') ∨ (∃ pre : List (Fin (pw * ph)), pre.map Fin.val = List.range pre.length ∧ Jx pre W')) := by
  refine callsIn_of_wp Tryz.func146 rfl hF ?_ hro
  simp only [Tryz.ntmps146, List.size_toArray, List.length_cons, List.length_nil, Nat.reduceAdd, Nat.reduceSub, Array.replicate_succ, Array.replicate_zero, List.push_toArray, List.append_toArray, List.nil_append, List.cons_append]
  gi_wp2
  gi_loopw [4, 5, 7, 8, 9, 10, 11, 12, 13, 14, 15, 16, 17, 18, 19, 20] (fun _ _ i _ _ _ _ _ _ _ _ _ _ _ _ _ wr => ∃ (y : Nat) (pre : List (Fin (pw * ph))), y ≤ ph ∧ i = .int .i64 y ∧ pre.map Fin.val = List.range (y * pw) ∧ J pre wr ∧ wr.heap[bw]? = W.heap[bw]?)
    (fun _ _ i _ _ _ _ _ _ _ _ _ _ _ _ _ _ => ph - (intOf i).toNat)
  case atStart =>
    exact ⟨0, [], by omega, rfl, by simp, h0, rfl⟩
  case round =>
    obtain ⟨y, pre, hy, rfl, hp, hJ, hB⟩ := hrel
    by_cases hlt : y < ph
    · have hcw' := (World.cell?_of_block (a := ⟨bw, 0, none⟩) hB).trans hcw
      have hpH := Lib.hid hp
      clear hp
      gi_wp2
      obtain ⟨wo, rfl⟩ : ∃ wo : World, wo = wr := ⟨_, rfl⟩
      gi_loopw [5, 11] (fun _ i wr => ∃ (x : Nat) (pre : List (Fin (pw * ph))), x ≤ pw ∧ i = .int .i64 x ∧ Hid (pre.map Fin.val = List.range (y * pw + x)) ∧ J pre wr ∧ wr.heap[bw]? = W.heap[bw]?)
        (fun _ i _ => pw - (intOf i).toNat)
      case atStart =>
        exact ⟨0, pre, by omega, rfl, hpH, hJ, hB⟩
      case round =>
        obtain ⟨x, pre2, hx, rfl, hp2, hJ2, hB2⟩ := hrel
        by_cases hltx : x < pw
        · have hi := idx_lt hltx hlt
          have hlen : pre2.length < pw * ph := by
            have := congrArg List.length hp2.out
            simp at this; omega
          obtain ⟨fn, tmps, assign, body, hyy, hR⟩ := hY pre2 ⟨y * pw + x, hi⟩ wr hJ2 hlen
          rw [enc2_at pw ph x y hltx hi] at hyy
          gi_wp2
          refine hR.mono ?_
          rintro e W3 (⟨rfl, hJ3, hk3⟩ | ⟨rfl, hJx3⟩)
          · gi_wp2
            go_roundw
            case rel => exact ⟨x + 1, pre2 ++ [⟨y * pw + x, hi⟩], by omega, by go_num, Lib.hid (by rw [List.map_append, hp2.out, ← Nat.add_assoc, List.range_succ]; rfl), hJ3, hk3.trans hB2⟩
            case measure => simp [intOf]; omega
          · gi_wp2
            refine bodyPost_ret (results_none rfl _ _ _) rfl ?_
            refine ⟨⟨_, rfl⟩, .inr ⟨pre2 ++ [⟨y * pw + x, hi⟩], ?_, hJx3⟩⟩
            have hl := congrArg List.length hp2.out
            simp at hl
            rw [List.map_append, hp2.out, List.length_append, hl]
            simp [List.range_succ]
        · gi_wp2
          go_roundw
          case rel =>
            refine ⟨y + 1, pre2, by omega, by go_num, ?_, hJ2, hB2⟩
            have : x = pw := by omega
            rw [hp2.out, this, Nat.add_mul]; simp
          case measure => simp [intOf]; omega
    · gi_wp2
      go_end0
      refine ⟨⟨_, rfl⟩, .inl ⟨pre, ?_, hJ⟩⟩
      have : y = ph := by omega
      rw [hp, this, Nat.mul_comm]

/-- The value that 'places' returns is an iterator over all places, in order. -/
theorem places_stopsK (F : Fence) (n : Nat) (hF : F.fn 146) (hro : F.round = none) (hn : 1 ≤ n) (bh bw : Nat) (pw ph : Nat) (hw : pw ≤ 1000) (hh : ph ≤ 1000) (w : World) (hb1 : bh < w.heap.size) (hb2 : bw < w.heap.size)
    (hch : w.cell? ⟨bh, 0, none⟩ = some (.int .i64 ph)) (hcw : w.cell? ⟨bw, 0, none⟩ = some (.int .i64 pw)) :
    SeqStopsK F n Tryz.prog 146 #[.pointer (some ⟨bh, 0, none⟩), .pointer (some ⟨bw, 0, none⟩)] (enc2 pw ph) (fun A B => B.heap[bw]? = A.heap[bw]?) (fun ys => ys.map Fin.val = List.range (pw * ph)) (fun pre => pre.map Fin.val = List.range pre.length) (pw * ph) w := fun l J Jx W hW _ _ hY h0 =>
  places1_in F n hF hro hn l bh bw pw ph hw hh J Jx hY W ((hW.cell (p := ⟨bh, 0, none⟩) hb1).trans hch) ((hW.cell (p := ⟨bw, 0, none⟩) hb2).trans hcw) h0


theorem info_int : (Tryz.prog.info? 3).map (fun i => (i.zero, i.size, i.bytes)) = some (some (.int .i64 0), 1, 8) := by kernel_rfl

/-- The values of an image that a function makes. -/
def img (pw ph : Nat) (g : Int → Int → Int) : List Int := (List.range (pw * ph)).map fun i => clamp (g (cX pw i) (cY pw i)) (-2147483648) 2147483648

theorem img_length (pw ph : Nat) (g : Int → Int → Int) : (img pw ph g).length = pw * ph := by simp [img]

def imgPart (pw ph : Nat) (g : Int → Int → Int) (pre : List (Fin (pw * ph))) : List Int := pre.map fun i => clamp (g (cX pw i.val) (cY pw i.val)) (-2147483648) 2147483648

theorem imgPart_all {pw ph : Nat} {g : Int → Int → Int} {ys : List (Fin (pw * ph))} (h : ys.map Fin.val = List.range (pw * ph)) : imgPart pw ph g ys = img pw ph g := by
  unfold imgPart img
  rw [← h, List.map_map]
  rfl

/-- A value of an image type whose pixels lie in new memory of the call's own, from block B on. -/
def OwnIm (B : Nat) (W : World) (v : Value) (iw ih : Int) (xs : List Int) : Prop :=
  ∃ s, v = .agg #[.int .i64 iw, .int .i64 ih, s] ∧ W.ownsRow B 3 1 s xs.length (xs.map (Value.int .i64))

theorem row_len {W : World} {base : Nat} {e : TypeId} {size : Nat} {v : Value} {k m : Nat} {xs : List Value} (hk : k = m) (h : W.ownsRow base e size v k xs) : W.ownsRow base e size v m xs := hk ▸ h

set_option maxRecDepth 100000 in
set_option maxHeartbeats 2000000 in
theorem made_any (pw ph : Nat) (h1 : 1 ≤ pw) (h2 : pw ≤ 16) (h3 : 1 ≤ ph) (h4 : ph ≤ 16) (fo : Nat) (lb : Array Value) (eg : ∀ args w, (callFunc fo args).run Tryz.prog w = .ok (.enter fo args) w) (g : Int → Int → Int) (w : World)
    (hof : ∀ (x y : Nat) (W : World), x < pw → y < ph → Below w.heap.size w W → Calls Tryz.prog fo (#[.int .i64 x, .int .i64 y] ++ lb) W fun e W' => e = .returned (.int .i64 (g x y)) ∧ Below W.heap.size W W') :
    Calls Tryz.prog 77 #[.int .i64 pw, .int .i64 ph, .func (.func fo) #[] lb] w fun e W' => ∃ v, e = .returned v ∧ OwnIm w.heap.size W' v pw ph (img pw ph g) ∧ Below w.heap.size w W' := by
  obtain ⟨i0, hi, hz0, hz1, hz2⟩ := info_parts info_int
  obtain ⟨m1, m2⟩ := mul_small (a := (pw : Int)) (b := (ph : Int)) (m := 16) (n := 16) (by omega) (by omega) (by omega) (by omega)
  refine (callsIn_wide (n := 10)).1 ?_
  refine callsIn_of_wp_marks Tryz.func77 rfl trivial ?_
  simp only [Tryz.ntmps77, List.size_toArray, List.length_cons, List.length_nil, Nat.reduceAdd, Nat.reduceSub, Array.replicate_succ, Array.replicate_zero, List.push_toArray, List.append_toArray, List.nil_append, List.cons_append]
  gi_wp2_with (gi_at_make; refine wpListIn_make_own _ rfl _ _ 25 rfl w.heap.size 3 i0 (.int .i64 0) 1 Tryz.underlying25 hi hz0 hz1 .i64 .i64 (pw * ph : Int) (pw * ph) rfl rfl (by simp) (by rw [hz2]; omega) (by unfold maxLen; omega) (by simp <;> omega) ?_; intro w1 hown hg)
  refine ⟨trivial, (callsIn_wide.2 (places_any _ _ _)).mono ?_⟩
  rintro e w' ⟨rfl, rfl⟩
  gi_wp2_with fail
  -- the world in which the loop begins
  have hsz1 := hg.size
  have hrl := hown.lt _ rfl
  have k5 := (((Blk.new w 131 #[.func (.func fo) #[] lb]).alloc (.cells #[.int .i64 0, .int .i64 0, .slice none 0 0] 27)).kept hg (by simp))
  have k6 := ((Blk.new (w.alloc (.cells #[.func (.func fo) #[] lb] 131)) 27 #[.int .i64 0, .int .i64 0, .slice none 0 0]).kept hg (by simp))
  have hb1 : Below w.heap.size w w1 := (((Below.refl _ w).alloc (Nat.le_refl _) _).alloc (by simp) _).grown hg (by simp <;> omega) (fun k e => by cases e)
  simp only [World.size_alloc] at hsz1 hrl k6 hown
  obtain ⟨M, hM⟩ : ∃ M, w1.heap.size = M := ⟨_, rfl⟩
  have kM := Blk.new w1 27 #[.int .i64 pw, .int .i64 ph, .slice (some ⟨w.heap.size + 1 + 1, 0, none⟩) 0 (pw * ph)]
  have kw := Blk.new (w1.alloc (.cells #[.int .i64 pw, .int .i64 ph, .slice (some ⟨w.heap.size + 1 + 1, 0, none⟩) 0 (pw * ph)] 27)) 3 #[.int .i64 pw]
  have kh := Blk.new ((w1.alloc (.cells #[.int .i64 pw, .int .i64 ph, .slice (some ⟨w.heap.size + 1 + 1, 0, none⟩) 0 (pw * ph)] 27)).alloc (.cells #[.int .i64 pw] 3)) 3 #[.int .i64 ph]
  have hB3 := ((hb1.alloc (by omega) (.cells #[.int .i64 pw, .int .i64 ph, .slice (some ⟨w.heap.size + 1 + 1, 0, none⟩) 0 (pw * ph)] 27)).alloc (by simp <;> omega) (.cells #[.int .i64 pw] 3)).alloc (by simp <;> omega) (.cells #[.int .i64 ph] 3)
  have k5' := ((k5.alloc (.cells #[.int .i64 pw, .int .i64 ph, .slice (some ⟨w.heap.size + 1 + 1, 0, none⟩) 0 (pw * ph)] 27)).alloc (.cells #[.int .i64 pw] 3)).alloc (.cells #[.int .i64 ph] 3)
  have k6' := ((k6.alloc (.cells #[.int .i64 pw, .int .i64 ph, .slice (some ⟨w.heap.size + 1 + 1, 0, none⟩) 0 (pw * ph)] 27)).alloc (.cells #[.int .i64 pw] 3)).alloc (.cells #[.int .i64 ph] 3)
  have kM' := (kM.alloc (.cells #[.int .i64 pw] 3)).alloc (.cells #[.int .i64 ph] 3)
  have kw' := kw.alloc (.cells #[.int .i64 ph] 3)
  have row' := ((hown.alloc (.cells #[.int .i64 pw, .int .i64 ph, .slice (some ⟨w.heap.size + 1 + 1, 0, none⟩) 0 (pw * ph)] 27)).alloc (.cells #[.int .i64 pw] 3)).alloc (.cells #[.int .i64 ph] 3)
  have hsz : (((w1.alloc (.cells #[.int .i64 pw, .int .i64 ph, .slice (some ⟨w.heap.size + 1 + 1, 0, none⟩) 0 (pw * ph)] 27)).alloc (.cells #[.int .i64 pw] 3)).alloc (.cells #[.int .i64 ph] 3)).heap.size = M + 3 := by simp <;> omega
  simp only [World.size_alloc, hM] at kM' kw' kh hrl
  clear k5 k6 kM kw hown hg hb1 hsz1
  rw [hM]
  obtain ⟨W0, hW0⟩ : ∃ W0, ((w1.alloc (.cells #[.int .i64 pw, .int .i64 ph, .slice (some ⟨w.heap.size + 1 + 1, 0, none⟩) 0 (pw * ph)] 27)).alloc (.cells #[.int .i64 pw] 3)).alloc (.cells #[.int .i64 ph] 3) = W0 := ⟨_, rfl⟩
  rw [hW0] at k5' k6' kM' kw' kh row' hB3 hsz ⊢
  clear hW0
  refine wpIn_rangeFunc_ownG (n := 10) rfl (by omega) (gf := 146) (lb := #[.pointer (some ⟨M + 1 + 1, 0, none⟩), .pointer (some ⟨M + 1, 0, none⟩)]) rfl trivial (enters_of Tryz.func146 (by kernel_rfl) rfl)
    (Kp := fun A B => B.heap[M + 1]? = A.heap[M + 1]?)
    (places_stopsK Fence.wide 9 trivial rfl (by omega) (M + 1 + 1) (M + 1) pw ph (by omega) (by omega) W0 (by omega) (by omega) (kh.cell rfl) (kw'.cell rfl)) (fun h k => k.trans h) (fun W l o o' hl _ _ _ => World.putObj_heap_other (by omega)) (Below.refl _ _) (fun _ => rfl)
    (fun pre W => ((Blk W M 27 #[.int .i64 pw, .int .i64 ph, .slice (some ⟨w.heap.size + 1 + 1, 0, none⟩) pre.length (pw * ph)] ∧ W.ownsRow w.heap.size 3 1 (.slice (some ⟨w.heap.size + 1 + 1, 0, none⟩) pre.length (pw * ph)) pre.length ((imgPart pw ph g pre).map (Value.int .i64))) ∧ Blk W w.heap.size 131 #[.func (.func fo) #[] lb] ∧ Blk W (w.heap.size + 1) 27 #[.int .i64 0, .int .i64 0, .slice none 0 0] ∧ M + 3 ≤ W.heap.size) ∧ Below w.heap.size w W)
    (fun _ _ _ => False)
    (OwnFrom.and (fun s A B row hs hg hr => ⟨⟨blk_keeps hs.1.1 hg (fun r e => (hr r e).2), row_keeps hs.1.2 hg (fun r e => (hr r e).2)⟩, blk_keeps hs.2.1 hg (fun r e => (hr r e).2), blk_keeps hs.2.2.1 hg (fun r e => (hr r e).2), Nat.le_trans hs.2.2.2 hg.size⟩) (ownFrom_below (Nat.le_refl _) (by omega)))
    (fun _ _ _ _ _ hs _ _ => hs)
    ⟨⟨⟨kM', row'⟩, k5', k6', by omega⟩, hB3⟩
    (fun x => { tmps := #[.int .i64 pw, .int .i64 ph, .func (.func fo) #[] lb, undef, undef, .pointer (some ⟨w.heap.size, 0, none⟩), .pointer (some ⟨w.heap.size + 1, 0, none⟩), .pointer (some ⟨M, 0, none⟩), .int .i64 (cX pw x.val), .int .i64 (cY pw x.val), .int .i64 pw, .int .i64 ph, .int .i64 pw, .int .i64 ph, .int .i64 (pw * ph), .slice (some ⟨w.heap.size + 1 + 1, 0, none⟩) 0 (pw * ph), .agg #[.int .i64 pw, .int .i64 ph, .slice (some ⟨w.heap.size + 1 + 1, 0, none⟩) 0 (pw * ph)], .int .i64 pw, .int .i64 ph, .func (.func 146) #[] #[.pointer (some ⟨M + 1 + 1, 0, none⟩), .pointer (some ⟨M + 1, 0, none⟩)], .int .i64 (cX pw x.val), .int .i64 (cY pw x.val), undef, undef, undef, undef, undef, undef, undef, undef, undef, undef, undef], defers := [] }) ?assign ?body ?done ?stop
  case assign =>
    intro l x W K hK
    simp only [enc2]
    gi_wp2
    exact hK
  case body =>
    rintro l pre ⟨i, hi'⟩ W ⟨⟨⟨kM1, row1⟩, k51, k61, hs1⟩, hB1⟩ hlt
    have hx : i % pw < pw := Nat.mod_lt _ (by omega)
    have hy : i / pw < ph := Nat.div_lt_of_lt_mul hi'
    have hof1 := Lib.hid (fun W h => hof (i % pw) (i / pw) W hx hy h)
    have ecX : cX pw i = ((i % pw : Nat) : Int) := rfl
    have ecY : cY pw i = ((i / pw : Nat) : Int) := rfl
    rw [← ecX, ← ecY] at hof1
    have hgrow : imgPart pw ph g (pre ++ [⟨i, hi'⟩]) = imgPart pw ph g pre ++ [clamp (g (cX pw i) (cY pw i)) (-2147483648) 2147483648] := by simp [imgPart]
    have hgrowH := Lib.hid hgrow
    clear hof hgrow
    clear ecX ecY
    dsimp only
    generalize cX pw i = xx at *
    generalize cY pw i = yy at *
    have hroom : pre.length + 1 ≤ pw * ph := hlt
    gi_wp2_with fail
    have hS : W.grownBy W.drew (some (w.heap.size + 1 + 1)) := ⟨rfl, rfl, rfl, Nat.le_refl _, fun _ _ _ => rfl⟩
    refine round_region (fun W' => W.grownBy W' (some (w.heap.size + 1 + 1))) 10 11 l _ (by kernel_rfl) (by kernel_rfl) (fun ⟨_, _, h⟩ => h) rfl ?_
    simp only [Array.replicate_succ, Array.replicate_zero, List.push_toArray, List.nil_append, List.cons_append]
    refine take_op 0 (v := ?v0) rfl (by kernel_rfl) (fun _ _ _ h => h) (by rfl) hS (fun w' hS' => ?hy0) ?rest0
    case hy0 =>
      go_simp
      rfl
    simp only [List.setIfInBounds_toArray, List.set_cons_zero, List.set_cons_succ]
    refine take_op 1 (v := ?v1) rfl (by kernel_rfl) (fun _ _ _ h => h) (by rfl) hS (fun w' hS' => ?hy1) ?rest1
    case hy1 =>
      have c1 := (kM1.kept hS' (by simp <;> omega)).cell (i := 2) rfl
      go_simp
      rfl
    simp only [List.setIfInBounds_toArray, List.set_cons_zero, List.set_cons_succ]
    refine take_op 2 (v := ?v2) rfl (by kernel_rfl) (fun _ _ _ h => h) (by rfl) hS (fun w' hS' => ?hy2) ?rest2
    case hy2 =>
      have c1 := (k51.kept hS' (by simp <;> omega)).cell (i := 0) rfl
      go_simp
      rfl
    simp only [List.setIfInBounds_toArray, List.set_cons_zero, List.set_cons_succ]
    refine take_op 3 (v := ?v3) rfl (by kernel_rfl) (fun _ _ _ h => h) (by rfl) hS (fun w' hS' => ?hy3) ?rest3
    case hy3 =>
      go_simp
      rfl
    simp only [List.setIfInBounds_toArray, List.set_cons_zero, List.set_cons_succ]
    refine take_op 4 (v := ?v4) rfl (by kernel_rfl) (fun _ _ _ h => h) (by rfl) hS (fun w' hS' => ?hy4) ?rest4
    case hy4 =>
      go_simp
      rfl
    simp only [List.setIfInBounds_toArray, List.set_cons_zero, List.set_cons_succ]
    refine step_op 5 (by kernel_rfl) rfl (fun K hK => ?_)
    rw [if_pos (by rfl)]
    go_simp
    refine (hof1.out W.drew (hB1.trans ((Below.refl _ W).drew.mono hB1.size))).mono ?_
    rintro e W1 ⟨rfl, hb1⟩
    have hb2 : Below W.heap.size W W1 := (Below.refl _ W).drew.trans hb1
    have hS1 : W.grownBy W1 (some (w.heap.size + 1 + 1)) := grown_of_below hb2 _
    refine hK.out _ _ (fun _ => hS1) ?_
    clear hK K
    simp only [Act.put, List.setIfInBounds_toArray, List.set_cons_zero, List.set_cons_succ]
    refine step_op 6 (by kernel_rfl) rfl (fun K hK => ?_)
    rw [if_pos (by rfl)]
    go_simp
    refine (value_any _ _).mono ?_
    rintro e W2 ⟨rfl, rfl⟩
    refine hK.out _ _ (fun _ => hS1) ?_
    clear hK K
    simp only [Act.put, List.setIfInBounds_toArray, List.set_cons_zero, List.set_cons_succ]
    generalize clamp (g xx yy) (-2147483648) 2147483648 = z at *
    refine step_op 7 (by kernel_rfl) rfl (fun K hK => ?_)
    rw [if_pos (by rfl)]
    go_simp
    have hb3 : Below W.heap.size W (W1.alloc (.cells #[.int .i64 z] 3)) := hb2.alloc hb2.size _
    refine hK.out _ _ (fun _ => grown_of_below hb3 _) ?_
    clear hK K
    simp only [Act.put, List.setIfInBounds_toArray, List.set_cons_zero, List.set_cons_succ]
    refine step_op 8 (by kernel_rfl) rfl (fun K hK => ?_)
    refine step_append_fits rfl (.tmp 23) (.tmp 29) 25 rfl w.heap.size 3 i0 1 Tryz.underlying25 hi hz1 (w.heap.size + 1 + 1) pre.length (pw * ph) ((imgPart pw ph g pre).map (Value.int .i64)) rfl (row_below row1 hb3) ⟨W1.heap.size, 0, none⟩ 1 1 [.int .i64 z] rfl rfl (cell_one_new _ _ _) (by simp [Value.oneCell']) hroom ?_
    intro W3 hown3 hg3
    have hgA : W.grownBy W3 (some (w.heap.size + 1 + 1)) := grown_trans (grown_of_below hb3 _) hg3
    refine hK.out _ _ (fun _ => hgA) ?_
    clear hK K
    simp only [Act.put, List.setIfInBounds_toArray, List.set_cons_zero, List.set_cons_succ]
    refine take_op 9 (v := ?v9) rfl (by kernel_rfl) (fun _ _ _ h => h) (by rfl) hgA (fun w' hS' => ?hy9) ?rest9
    case hy9 =>
      go_simp
      rfl
    simp only [List.setIfInBounds_toArray, List.set_cons_zero, List.set_cons_succ]
    have kM3 := kM1.kept hgA (by simp <;> omega)
    have cM3 := kM3.cell (i := 2) rfl
    have fM3 := kM3.frozen 2
    refine step_op 10 (by kernel_rfl) rfl (fun K hK => ?_)
    rw [if_pos (by rfl)]
    go_simp
    refine hK.out _ _ (fun h => absurd h (by omega)) ?_
    clear hK K
    refine done_ops (by kernel_rfl) ?_
    have hgs : W.heap.size ≤ W3.heap.size := hgA.size
    refine ⟨((others_of_row row1 hgA).trans (KeepsOthers.setCell _ _ _)).from _, (Below.heap_setCell _ _ _ _ (by simp)).trans (hgA.block _ (by omega) (by simp <;> omega)), ⟨⟨?_, ?_⟩, ?_, ?_, ?_⟩, ?_⟩
    · have := kM3.set 2 (.slice (some ⟨w.heap.size + 1 + 1, 0, none⟩) (pre.length + 1) (pw * ph))
      simpa using this
    · have := row_setCell hown3 (a := ⟨M, 2, none⟩) (by simp [Value.ownBlock] <;> omega) (.slice (some ⟨w.heap.size + 1 + 1, 0, none⟩) (pre.length + 1) (pw * ph))
      rw [hgrowH.out]
      simpa using this
    · exact (k51.kept hgA (by simp <;> omega)).other (by simp <;> omega) _
    · exact (k61.kept hgA (by simp <;> omega)).other (by simp <;> omega) _
    · simp [World.setCell]; omega
    · exact (hB1.trans (below_of_row (n := w.heap.size) row1 hgA (Nat.le_refl _) hB1.size)).setCell (p := ⟨M, 2, none⟩) (by simp <;> omega) _
  case done =>
    rintro D ys W hD hys ⟨⟨⟨kM1, row1⟩, k51, k61, hs1⟩, hB1⟩ hK
    have c0 := kM1.cell (i := 0) rfl
    have c1 := kM1.cell (i := 1) rfl
    have c2 := kM1.cell (i := 2) rfl
    have d0 := k61.cell (i := 0) rfl
    have d1 := k61.cell (i := 1) rfl
    have d2 := k61.cell (i := 2) rfl
    have f0 := k61.frozen 0
    have f1 := k61.frozen 1
    have f2 := k61.frozen 2
    gi_wp2
    have hD1 : w.heap.size + 1 ≠ D := by omega
    have hKf : (((W.setCell ⟨w.heap.size + 1, 0, none⟩ (.int .i64 pw)).setCell ⟨w.heap.size + 1, 1, none⟩ (.int .i64 ph)).setCell ⟨w.heap.size + 1, 2, none⟩ (.slice (some ⟨w.heap.size + 1 + 1, 0, none⟩) ys.length (pw * ph))).heap[D]? = some (.deferred (some [])) :=
      (Below.heap_setCell _ _ _ _ (fun e => hD1 e.symm)).trans ((Below.heap_setCell _ _ _ _ (fun e => hD1 e.symm)).trans ((Below.heap_setCell _ _ _ _ (fun e => hD1 e.symm)).trans hK))
    have kf := (((k61.set 0 (.int .i64 pw)).set 1 (.int .i64 ph)).set 2 (.slice (some ⟨w.heap.size + 1 + 1, 0, none⟩) ys.length (pw * ph))).putObj hD1 (.deferred none)
    have g0 := kf.cell (i := 0) (v := .int .i64 pw) (by simp)
    have g1 := kf.cell (i := 1) (v := .int .i64 ph) (by simp)
    have g2 := kf.cell (i := 2) (v := .slice (some ⟨w.heap.size + 1 + 1, 0, none⟩) ys.length (pw * ph)) (by simp)
    refine ⟨by simp, .inl ⟨_, _, rfl, run_takeDeferred hKf, ?_⟩⟩
    have hlen : ys.length = pw * ph := by have := congrArg List.length hys; simpa using this
    have rowf := ownsRow_putObj (row_setCell (row_setCell (row_setCell row1 (a := ⟨w.heap.size + 1, 0, none⟩) (by simp [Value.ownBlock]) (.int .i64 pw)) (a := ⟨w.heap.size + 1, 1, none⟩) (by simp [Value.ownBlock]) (.int .i64 ph)) (a := ⟨w.heap.size + 1, 2, none⟩) (by simp [Value.ownBlock]) (.slice (some ⟨w.heap.size + 1 + 1, 0, none⟩) ys.length (pw * ph))) (.deferred none) hKf rfl
    refine ⟨.agg #[.int .i64 pw, .int .i64 ph, .slice (some ⟨w.heap.size + 1 + 1, 0, none⟩) ys.length (pw * ph)], by simp [results, Tryz.results77, go_sem, g0, g1, g2], _, rfl, ⟨_, rfl, ?_⟩, ?_⟩
    · rw [imgPart_all hys] at rowf
      rw [img_length]
      exact row_len hlen rowf
    · exact (((hB1.setCell (p := ⟨w.heap.size + 1, 0, none⟩) (by simp) _).setCell (p := ⟨w.heap.size + 1, 1, none⟩) (by simp) _).setCell (p := ⟨w.heap.size + 1, 2, none⟩) (by simp) _).trans (belowK_b (w := w) (Nat.le_refl _) _ D _ _ (by omega) hKf rfl rfl)
  case stop =>
    rintro D c pre W _ _ h _
    exact h.elim

end Go.Proofs.YtbfigbpjoaccdaaGreat

namespace Go.Proofs.YtbfigbpjoaccdaaGreat
open Go Go.RowKit Go.Shelf
set_option linter.unusedVariables false
set_option linter.unusedSimpArgs false

/-- What a function returns: an image in new memory of the call's own, from block B on, and a number. -/
structure ImR where
  w : Int
  h : Int
  px : List Int
  err : Int

def RetIm (B : Nat) (r : ImR) (w : World) (e : Ending) (w' : World) : Prop :=
  (∃ v, e = .returned (.tuple #[v, .int .i64 r.err]) ∧ OwnIm B w' v r.w r.h r.px) ∧ Below B w w'

/-- The refusal with a number. -/
def noIm (err : Int) : ImR := { w := 0, h := 0, px := [], err := err }

theorem OwnIm_nil (B : Nat) (W : World) : OwnIm B W (.agg #[.int .i64 0, .int .i64 0, .slice none 0 0]) 0 0 [] := ⟨_, rfl, World.ownsRow_nil _ _ _ _⟩

/-- Three cells written one after the other. -/
abbrev put3 (W : World) (B : Nat) (x y z : Value) : World := ((W.setCell ⟨B, 0, none⟩ x).setCell ⟨B, 1, none⟩ y).setCell ⟨B, 2, none⟩ z

theorem put3_blk {W : World} {B : Nat} {t : TypeId} {a b c : Value} (k : Blk W B t #[a, b, c]) (x y z : Value) : Blk (put3 W B x y z) B t #[x, y, z] := by
  have := ((k.set 0 x).set 1 y).set 2 z
  simpa using this

theorem put3_below {W : World} {n B : Nat} (h : n ≤ B) (x y z : Value) : Below n W (put3 W B x y z) :=
  (((Below.refl n W).setCell (p := ⟨B, 0, none⟩) h x).setCell (p := ⟨B, 1, none⟩) h y).setCell (p := ⟨B, 2, none⟩) h z

theorem put3_below_block (W : World) (B k : Nat) (h : k ≠ B) (x y z : Value) : (put3 W B x y z).heap[k]? = W.heap[k]? :=
  (Below.heap_setCell _ _ _ _ h).trans ((Below.heap_setCell _ _ _ _ h).trans (Below.heap_setCell _ _ _ _ h))

theorem put3_row {W : World} {B : Nat} {base : Nat} {e : TypeId} {size : Nat} {v : Value} {k : Nat} {xs : List Value} (h : W.ownsRow base e size v k xs) (hne : some B ≠ v.ownBlock) (x y z : Value) : (put3 W B x y z).ownsRow base e size v k xs :=
  row_setCell (row_setCell (row_setCell h (a := ⟨B, 0, none⟩) hne x) (a := ⟨B, 1, none⟩) hne y) (a := ⟨B, 2, none⟩) hne z

theorem OwnIm.weaken {B B' : Nat} {W : World} {v : Value} {iw ih : Int} {xs : List Int} (h : OwnIm B W v iw ih xs) (hB : B' ≤ B) : OwnIm B' W v iw ih xs := by
  obtain ⟨s, h1, h2, h3⟩ := h
  refine ⟨s, h1, h2, ?_⟩
  rcases h3 with h3 | ⟨g, cap, cur, e1, e2, r⟩
  · exact .inl h3
  · exact .inr ⟨g, cap, cur, e1, by omega, r⟩

theorem prod_bd {a x m n : Int} (h1 : -m ≤ a) (h2 : a ≤ m) (h3 : 0 ≤ x) (h4 : x ≤ n) (hm : 0 ≤ m) : -(m * n) ≤ a * x ∧ a * x ≤ m * n := by
  have e1 : a * x ≤ m * x := Int.mul_le_mul_of_nonneg_right h2 h3
  have e2 : m * x ≤ m * n := Int.mul_le_mul_of_nonneg_left h4 hm
  have e3 : -m * x ≤ a * x := Int.mul_le_mul_of_nonneg_right h1 h3
  have e4 : -m * x = -(m * x) := Int.neg_mul _ _
  omega

/-- A warp's numbers. -/
structure WarpN where
  a : Int
  b : Int
  c : Int
  d : Int
  e : Int
  f : Int
  den : Int

def WarpN.ok (t : WarpN) : Bool := (((((inR t.a (-65536) 65536 && inR t.b (-65536) 65536) && inR t.c (-65536) 65536) && inR t.d (-65536) 65536) && inR t.e (-65536) 65536) && inR t.f (-65536) 65536) && inR t.den 1 65536

abbrev WarpN.val (t : WarpN) : Value := .agg #[.int .i64 t.a, .int .i64 t.b, .int .i64 t.c, .int .i64 t.d, .int .i64 t.e, .int .i64 t.f, .int .i64 t.den]
abbrev WarpN.cells (t : WarpN) : Array Value := #[.int .i64 t.a, .int .i64 t.b, .int .i64 t.c, .int .i64 t.d, .int .i64 t.e, .int .i64 t.f, .int .i64 t.den]

theorem in_idx {iw ih u v : Int} {n : Nat} (hw : 1 ≤ iw) (hn : (n : Int) = iw * ih) (hu0 : 0 ≤ u) (hu1 : u ≤ iw - 1) (hv0 : 0 ≤ v) (hv1 : v ≤ ih - 1) : 0 ≤ v * iw ∧ 0 ≤ v * iw + u ∧ v * iw + u < n ∧ v * iw < n := by
  have h1 : 0 ≤ v * iw := Int.mul_nonneg hv0 (by omega)
  have h2 : v * iw ≤ (ih - 1) * iw := Int.mul_le_mul_of_nonneg_right hv1 (by omega)
  have h3 : (ih - 1) * iw = iw * ih - iw := by rw [Int.sub_mul, Int.mul_comm ih iw]; omega
  omega

theorem row_slice {W : World} {base : Nat} {e : TypeId} {size : Nat} {v : Value} {k : Nat} {xs : List Value} (h : W.ownsRow base e size v k xs) : ∃ a c, v = .slice a k c := by
  rcases h.2 with ⟨h1, h2⟩ | ⟨g, cap, cur, h1, _⟩
  · exact ⟨none, 0, by rw [h1, h2]⟩
  · exact ⟨_, _, h1⟩

theorem alloc_below {W W2 : World} {o : Obj} (h : W.alloc o = W2) : Below W.heap.size W W2 := h ▸ (Below.refl _ _).alloc (Nat.le_refl _) _

theorem below_al {a w : World} (h : Below a.heap.size a w) (o : Obj) : Below a.heap.size a (w.alloc o) := h.alloc h.size o

end Go.Proofs.YtbfigbpjoaccdaaGreat

namespace Go.Proofs.YtbfigbpjoaccdaaGreat
open Go Go.RowKit Go.Shelf
set_option linter.unusedVariables false
set_option linter.unusedSimpArgs false

/-- What a row of integers holds can be read. -/
theorem row_rd {W : World} {base : Nat} {a : Option Addr} {c : Nat} {xs : List Int} (h : W.ownsRow base 3 1 (.slice a xs.length c) xs.length (xs.map (Value.int .i64))) : Rd W.heap.size W a xs := by
  rcases h.2 with ⟨h1, h2⟩ | ⟨g, cap, cur, h1, _, hg, _⟩
  · exact .inl (List.eq_nil_of_length_eq_zero h2)
  · simp only [Value.slice.injEq, true_and] at h1
    obtain ⟨rfl, rfl⟩ := h1
    refine .inr ⟨g, 0, rfl, (Array.getElem?_eq_some_iff.1 hg).1, fun i hi => ?_⟩
    have := h.cellAt i (by omega)
    rw [Nat.zero_add, this]
    simp [hi]

theorem row_rd' {W : World} {base : Nat} {a : Option Addr} {c n : Nat} {xs : List Int} (hn : xs.length = n) (h : W.ownsRow base 3 1 (.slice a n c) n (xs.map (Value.int .i64))) : Rd W.heap.size W a xs := by
  subst hn; exact row_rd h

set_option maxRecDepth 100000 in
set_option maxHeartbeats 1000000 in
theorem SameInts_eq (a1 a2 : Option Addr) (c1 c2 n : Nat) (xs : List Int) (hn : Hid (xs.length = n)) (w : World) (hm : n ≤ 9223372036854775807) (h1 : Rd w.heap.size w a1 xs) (h2 : Rd w.heap.size w a2 xs) :
    Calls Tryz.prog 31 #[.slice a1 n c1, .slice a2 n c2] w fun e w' => e = .returned (.bool true) ∧ Below w.heap.size w w' := by
  go_enter Tryz.func31, Tryz.ntmps31
  go_wp2
  go_loopw [5] (fun i wr => ∃ k : Nat, k ≤ n ∧ i = .int .i64 k ∧ Below w.heap.size w wr) (fun i _ => n - (intOf i).toNat)
  case atStart => exact ⟨0, Nat.zero_le _, rfl, Below.refl _ _⟩
  case round =>
    obtain ⟨k, hk, rfl, hB⟩ := hrel
    by_cases hlt : k < n
    · rcases h1 with h0 | ⟨b, o, rfl, hb, hc⟩
      · exfalso; have := hn.out; rw [h0] at this; simp at this; omega
      rcases h2 with h0 | ⟨b2, o2, rfl, hb2, hc2⟩
      · exfalso; have := hn.out; rw [h0] at this; simp at this; omega
      have hlt' : k < xs.length := by have := hn.out; omega
      have hcell := (hB.cell (p := ⟨b, o + k, none⟩) hb).trans (hc k hlt')
      have hcell2 := (hB.cell (p := ⟨b2, o2 + k, none⟩) hb2).trans (hc2 k hlt')
      obtain ⟨x, hx⟩ : ∃ x, xs[k]?.getD 0 = x := ⟨_, rfl⟩
      rw [hx] at hcell hcell2
      clear hx hlt' hc hc2
      have hS : wr.heap = wr.drew.heap := rfl
      have hS0 : wr.drew.heap = wr.heap := rfl
      go_wp2_with fail
      refine plain_region (fun W' => W'.heap = wr.heap) 9 9 (by kernel_rfl) rfl ?_
      simp only [Array.replicate_succ, Array.replicate_zero, List.push_toArray, List.nil_append, List.cons_append]
      refine take_op 0 (v := ?rv0) rfl (by kernel_rfl) (fun _ _ _ h => h) (by rfl) hS0 (fun w' hS' => ?ry0) ?rz0
      case ry0 =>
        go_simp
        rfl
      simp only [List.setIfInBounds_toArray, List.set_cons_zero, List.set_cons_succ]
      refine take_op 1 (v := ?rv1) rfl (by kernel_rfl) (fun _ _ _ h => h) (by rfl) hS0 (fun w' hS' => ?ry1) ?rz1
      case ry1 =>
        go_simp
        rfl
      simp only [List.setIfInBounds_toArray, List.set_cons_zero, List.set_cons_succ]
      refine take_op 2 (v := ?rv2) rfl (by kernel_rfl) (fun _ _ _ h => h) (by rfl) hS0 (fun w' hS' => ?ry2) ?rz2
      case ry2 =>
        go_simp
        try go_ints
        rfl
      simp only [List.setIfInBounds_toArray, List.set_cons_zero, List.set_cons_succ]
      refine take_op 3 (v := ?rv3) rfl (by kernel_rfl) (fun _ _ _ h => h) (by rfl) hS0 (fun w' hS' => ?ry3) ?rz3
      case ry3 =>
        have c1 := (World.cell?_of_block (w := wr) (w' := w') (a := ⟨b, o + k, none⟩) (by rw [hS'])).trans hcell
        have c2 := (World.cell?_of_block (w := wr) (w' := w') (a := ⟨b2, o2 + k, none⟩) (by rw [hS'])).trans hcell2
        clear hS'
        go_simp
        rfl
      simp only [List.setIfInBounds_toArray, List.set_cons_zero, List.set_cons_succ]
      refine take_op 4 (v := ?rv4) rfl (by kernel_rfl) (fun _ _ _ h => h) (by rfl) hS0 (fun w' hS' => ?ry4) ?rz4
      case ry4 =>
        go_simp
        rfl
      simp only [List.setIfInBounds_toArray, List.set_cons_zero, List.set_cons_succ]
      refine take_op 5 (v := ?rv5) rfl (by kernel_rfl) (fun _ _ _ h => h) (by rfl) hS0 (fun w' hS' => ?ry5) ?rz5
      case ry5 =>
        go_simp
        rfl
      simp only [List.setIfInBounds_toArray, List.set_cons_zero, List.set_cons_succ]
      refine take_op 6 (v := ?rv6) rfl (by kernel_rfl) (fun _ _ _ h => h) (by rfl) hS0 (fun w' hS' => ?ry6) ?rz6
      case ry6 =>
        go_simp
        try go_ints
        rfl
      simp only [List.setIfInBounds_toArray, List.set_cons_zero, List.set_cons_succ]
      refine take_op 7 (v := ?rv7) rfl (by kernel_rfl) (fun _ _ _ h => h) (by rfl) hS0 (fun w' hS' => ?ry7) ?rz7
      case ry7 =>
        have c1 := (World.cell?_of_block (w := wr) (w' := w') (a := ⟨b, o + k, none⟩) (by rw [hS'])).trans hcell
        have c2 := (World.cell?_of_block (w := wr) (w' := w') (a := ⟨b2, o2 + k, none⟩) (by rw [hS'])).trans hcell2
        clear hS'
        go_simp
        rfl
      simp only [List.setIfInBounds_toArray, List.set_cons_zero, List.set_cons_succ]
      refine take_op 8 (v := ?rv8) rfl (by kernel_rfl) (fun _ _ _ h => h) (by rfl) hS0 (fun w' hS' => ?ry8) ?rz8
      case ry8 =>
        go_simp
        try go_ints
        rfl
      simp only [List.setIfInBounds_toArray, List.set_cons_zero, List.set_cons_succ]
      refine done_ops (by kernel_rfl) ?_
      go_wp2_with fail
      go_roundw
      case rel => exact ⟨k + 1, by omega, by go_num, hB.drew⟩
      case measure => simp [intOf]; omega
    · go_wp2
      go_ret
      exact ⟨rfl, hB⟩

set_option maxHeartbeats 400000 in
theorem Same_eq (iw ih : Int) (a1 a2 : Option Addr) (c1 c2 n : Nat) (xs : List Int) (hn : Hid (xs.length = n)) (w : World) (hm : n ≤ 9223372036854775807) (h1 : Rd w.heap.size w a1 xs) (h2 : Rd w.heap.size w a2 xs) :
    Calls Tryz.prog 39 #[imv iw ih a1 n c1, imv iw ih a2 n c2] w fun e w' => e = .returned (.bool true) ∧ Below w.heap.size w w' := by
  have hb : Below w.heap.size w ((w.alloc (.cells #[.int .i64 iw, .int .i64 ih, .slice a1 n c1] 27)).alloc (.cells #[.int .i64 iw, .int .i64 ih, .slice a2 n c2] 27)) := below_al (below_al (Below.refl _ _) _) _
  go_enter Tryz.func39, Tryz.ntmps39
  go_wp2_with fail
  refine (SameInts_eq a1 a2 c1 c2 n xs hn _ hm ((h1.below (Nat.le_refl _) hb).mono hb.size) ((h2.below (Nat.le_refl _) hb).mono hb.size)).mono ?_
  rintro e W1 ⟨rfl, hb1⟩
  go_wp2_with fail
  go_ret
  exact ⟨rfl, hb.trans (hb1.mono hb.size)⟩

end Go.Proofs.YtbfigbpjoaccdaaGreat

namespace Go.Proofs.YtbfigbpjoaccdaaGreat
open Go Go.RowKit Go.Shelf
set_option linter.unusedVariables false
set_option linter.unusedSimpArgs false

theorem row_base {W : World} {base base' : Nat} {e : TypeId} {size : Nat} {v : Value} {k : Nat} {xs : List Value} (h : W.ownsRow base e size v k xs) (hb : base' ≤ base) : W.ownsRow base' e size v k xs := by
  refine ⟨h.1, ?_⟩
  rcases h.2 with h3 | ⟨g, cap, cur, e1, e2, r⟩
  · exact .inl h3
  · exact .inr ⟨g, cap, cur, e1, by omega, r⟩

theorem clamp_id {n : Int} (h : -2147483648 ≤ n) (h2 : n ≤ 2147483648) : clamp n (-2147483648) 2147483648 = n := by unfold clamp; omega

theorem px_bd {xs : List Int} (h : allIn (-2147483648) 2147483648 xs = true) (i : Int) : -2147483648 ≤ px xs i ∧ px xs i ≤ 2147483648 := by
  unfold px
  rcases Nat.lt_or_ge i.toNat xs.length with h1 | h1
  · rw [List.getElem?_eq_getElem h1]; exact allIn_mem h (List.getElem_mem h1)
  · rw [List.getElem?_eq_none h1]; decide

end Go.Proofs.YtbfigbpjoaccdaaGreat

namespace Go.Proofs.YtbfigbpjoaccdaaGreat
open Go Go.RowKit Go.Shelf
set_option linter.unusedVariables false
set_option linter.unusedSimpArgs false

/-- A point operation's numbers. -/
structure PointN where
  mul : Int
  add : Int
  div : Int
  lo : Int
  hi : Int

abbrev PointN.val (p : PointN) : Value := .agg #[.int .i64 p.mul, .int .i64 p.add, .int .i64 p.div, .int .i64 p.lo, .int .i64 p.hi]
abbrev PointN.cells (p : PointN) : Array Value := #[.int .i64 p.mul, .int .i64 p.add, .int .i64 p.div, .int .i64 p.lo, .int .i64 p.hi]
def PointN.ok (p : PointN) : Bool := ((inR p.mul (-65536) 65536 && ((inR p.add (-2147483648) 2147483648 && inR p.lo (-2147483648) 2147483648) && inR p.hi (-2147483648) 2147483648)) && inR p.div 1 65536) && decide (p.lo ≤ p.hi)
def pointF (p : PointN) (v : Int) : Int := clamp ((p.mul * v + p.add) / p.div) p.lo p.hi
def pointG (iw : Int) (xs : List Int) (p : PointN) (x y : Int) : Int := pointF p (px xs (y * iw + x))

theorem mul_bd {a b m n : Int} (h1 : -m ≤ a) (h2 : a ≤ m) (h3 : -n ≤ b) (h4 : b ≤ n) (hm : 0 ≤ m) (hn : 0 ≤ n) : -(m * n) ≤ a * b ∧ a * b ≤ m * n := by
  rcases Int.le_total 0 b with hb | hb
  · exact prod_bd h1 h2 hb h4 hm
  · have := prod_bd (a := a) (x := -b) (m := m) (n := n) h1 h2 (by omega) (by omega) hm
    rw [Int.mul_neg] at this
    omega

theorem clamp_le {n lo hi : Int} (h : lo ≤ hi) : lo ≤ clamp n lo hi ∧ clamp n lo hi ≤ hi := by unfold clamp; omega

theorem PointN.ok_true {p : PointN} (h : p.ok = true) : (-65536 ≤ p.mul ∧ p.mul ≤ 65536) ∧ (-2147483648 ≤ p.add ∧ p.add ≤ 2147483648) ∧ (-2147483648 ≤ p.lo ∧ p.lo ≤ 2147483648) ∧ (-2147483648 ≤ p.hi ∧ p.hi ≤ 2147483648) ∧ (1 ≤ p.div ∧ p.div ≤ 65536) ∧ p.lo ≤ p.hi := by
  simp only [PointN.ok, Bool.and_eq_true, inR_true, decide_eq_true_eq] at h
  obtain ⟨⟨⟨h1, ⟨h2, h3⟩, h4⟩, h5⟩, h6⟩ := h
  exact ⟨h1, h2, h3, h4, h5, h6⟩

theorem within3 (lo hi x0 x1 x2 : Int) (v : Bool) (hv : ((inR x0 lo hi && inR x1 lo hi) && inR x2 lo hi) = v) (b : Nat) (c : Nat) (w : World) (t : TypeId) (h : Blk w b t #[.int .i64 x0, .int .i64 x1, .int .i64 x2]) :
    Calls Tryz.prog 80 #[.int .i64 lo, .int .i64 hi, .slice (some ⟨b, 0, none⟩) 3 c] w fun e w' => e = .returned (.bool v) ∧ w = w' := by
  subst hv
  have h' := within_any lo hi (some ⟨b, 0, none⟩) c [x0, x1, x2] w (by simp) (.inr ⟨b, 0, rfl, h.lt, fun i hi => by
    have : i = 0 ∨ i = 1 ∨ i = 2 := by simp at hi; omega
    rcases this with rfl | rfl | rfl <;> exact h.cell rfl⟩)
  refine h'.mono fun e w' ⟨he, hw⟩ => ⟨he.trans (ret_bool (by simp [allIn, inR, Bool.and_assoc])), hw⟩

set_option maxRecDepth 100000 in
set_option maxHeartbeats 1000000 in
theorem Point1_any (iw ih : Int) (a : Option Addr) (c n : Nat) (xs : List Int) (hn : Hid (xs.length = n)) (hall : Hid (allIn (-2147483648) 2147483648 xs = true)) (p : PointN) (hp : p.ok = true) (x y : Int) (b6 b5 : Nat) (W : World) (hi1 : 1 ≤ iw) (hi2 : iw ≤ 16) (hi3 : 1 ≤ ih) (hi4 : ih ≤ 16) (hnn : Hid ((n : Int) = iw * ih)) (hx1 : 0 ≤ x) (hx2 : x ≤ iw - 1) (hy1 : 0 ≤ y) (hy2 : y ≤ ih - 1)
    (k6 : Blk W b6 115 p.cells) (k5 : Blk W b5 27 #[.int .i64 iw, .int .i64 ih, .slice a n c]) (hr : Rd W.heap.size W a xs) :
    Calls Tryz.prog 99 #[.int .i64 x, .int .i64 y, .pointer (some ⟨b6, 0, none⟩), .pointer (some ⟨b5, 0, none⟩)] W fun e W' => e = .returned (.int .i64 (pointG iw xs p x y)) ∧ Below W.heap.size W W' := by
  obtain ⟨m1, m2⟩ := mul_small (a := iw) (b := ih) (by omega) hi2 (by omega) hi4
  obtain ⟨q1, q2, q3, q4⟩ := in_idx (u := x) (v := y) hi1 hnn.out hx1 hx2 hy1 hy2
  have hn9 : n ≤ 256 := by have := hnn.out; omega
  obtain ⟨⟨p1, p2⟩, ⟨p3, p4⟩, ⟨p5, p6⟩, ⟨p7, p8⟩, ⟨p9, p10⟩, p11⟩ := PointN.ok_true hp
  obtain ⟨v, hv⟩ : ∃ v, px xs (y * iw + x) = v := ⟨_, rfl⟩
  have hv1 := px_bd hall.out (y * iw + x)
  rw [hv] at hv1
  obtain ⟨r1, r2⟩ := mul_bd p1 p2 hv1.1 hv1.2 (by omega) (by omega)
  have hvH := Lib.hid hv
  have hpH := Lib.hid hp
  clear hv hp
  have hS : Below W.heap.size W W.drew := (Below.refl _ _).drew
  go_enter Tryz.func99, Tryz.ntmps99
  go_wp2_with fail
  refine plain_region (fun W' => Below W.heap.size W W') 19 19 (by kernel_rfl) rfl ?_
  simp only [Array.replicate_succ, Array.replicate_zero, List.push_toArray, List.nil_append, List.cons_append]
  refine take_op 0 (v := ?rv0) rfl (by kernel_rfl) (fun _ _ _ h => h) (by rfl) hS (fun w' hS' => ?ry0) ?rz0
  case ry0 =>
    go_simp
    rfl
  simp only [List.setIfInBounds_toArray, List.set_cons_zero, List.set_cons_succ]
  refine take_op 1 (v := ?rv1) rfl (by kernel_rfl) (fun _ _ _ h => h) (by rfl) hS (fun w' hS' => ?ry1) ?rz1
  case ry1 =>
    have a0 := (k6.below hS' k6.lt).cell (i := 0) rfl
    have a1 := (k6.below hS' k6.lt).cell (i := 1) rfl
    have a2 := (k6.below hS' k6.lt).cell (i := 2) rfl
    have a3 := (k6.below hS' k6.lt).cell (i := 3) rfl
    have a4 := (k6.below hS' k6.lt).cell (i := 4) rfl
    have b0 := (k5.below hS' k5.lt).cell (i := 0) rfl
    have b1 := (k5.below hS' k5.lt).cell (i := 1) rfl
    have b2 := (k5.below hS' k5.lt).cell (i := 2) rfl
    go_simp
    rfl
  simp only [List.setIfInBounds_toArray, List.set_cons_zero, List.set_cons_succ]
  refine take_op 2 (v := ?rv2) rfl (by kernel_rfl) (fun _ _ _ h => h) (by rfl) hS (fun w' hS' => ?ry2) ?rz2
  case ry2 =>
    have a0 := (k6.below hS' k6.lt).cell (i := 0) rfl
    have a1 := (k6.below hS' k6.lt).cell (i := 1) rfl
    have a2 := (k6.below hS' k6.lt).cell (i := 2) rfl
    have a3 := (k6.below hS' k6.lt).cell (i := 3) rfl
    have a4 := (k6.below hS' k6.lt).cell (i := 4) rfl
    have b0 := (k5.below hS' k5.lt).cell (i := 0) rfl
    have b1 := (k5.below hS' k5.lt).cell (i := 1) rfl
    have b2 := (k5.below hS' k5.lt).cell (i := 2) rfl
    go_simp
    rfl
  simp only [List.setIfInBounds_toArray, List.set_cons_zero, List.set_cons_succ]
  refine take_op 3 (v := ?rv3) rfl (by kernel_rfl) (fun _ _ _ h => h) (by rfl) hS (fun w' hS' => ?ry3) ?rz3
  case ry3 =>
    go_simp
    rfl
  simp only [List.setIfInBounds_toArray, List.set_cons_zero, List.set_cons_succ]
  refine take_op 4 (v := ?rv4) rfl (by kernel_rfl) (fun _ _ _ h => h) (by rfl) hS (fun w' hS' => ?ry4) ?rz4
  case ry4 =>
    go_simp
    rfl
  simp only [List.setIfInBounds_toArray, List.set_cons_zero, List.set_cons_succ]
  refine take_op 7 (v := ?rv7) rfl (by kernel_rfl) (fun _ _ _ h => h) (by rfl) hS (fun w' hS' => ?ry7) ?rz7
  case ry7 =>
    go_simp
    rfl
  simp only [List.setIfInBounds_toArray, List.set_cons_zero, List.set_cons_succ]
  refine take_op 8 (v := ?rv8) rfl (by kernel_rfl) (fun _ _ _ h => h) (by rfl) hS (fun w' hS' => ?ry8) ?rz8
  case ry8 =>
    have a0 := (k6.below hS' k6.lt).cell (i := 0) rfl
    have a1 := (k6.below hS' k6.lt).cell (i := 1) rfl
    have a2 := (k6.below hS' k6.lt).cell (i := 2) rfl
    have a3 := (k6.below hS' k6.lt).cell (i := 3) rfl
    have a4 := (k6.below hS' k6.lt).cell (i := 4) rfl
    have b0 := (k5.below hS' k5.lt).cell (i := 0) rfl
    have b1 := (k5.below hS' k5.lt).cell (i := 1) rfl
    have b2 := (k5.below hS' k5.lt).cell (i := 2) rfl
    go_simp
    rfl
  simp only [List.setIfInBounds_toArray, List.set_cons_zero, List.set_cons_succ]
  refine take_op 10 (v := ?rv10) rfl (by kernel_rfl) (fun _ _ _ h => h) (by rfl) hS (fun w' hS' => ?ry10) ?rz10
  case ry10 =>
    go_simp
    rfl
  simp only [List.setIfInBounds_toArray, List.set_cons_zero, List.set_cons_succ]
  refine take_op 11 (v := ?rv11) rfl (by kernel_rfl) (fun _ _ _ h => h) (by rfl) hS (fun w' hS' => ?ry11) ?rz11
  case ry11 =>
    have a0 := (k6.below hS' k6.lt).cell (i := 0) rfl
    have a1 := (k6.below hS' k6.lt).cell (i := 1) rfl
    have a2 := (k6.below hS' k6.lt).cell (i := 2) rfl
    have a3 := (k6.below hS' k6.lt).cell (i := 3) rfl
    have a4 := (k6.below hS' k6.lt).cell (i := 4) rfl
    have b0 := (k5.below hS' k5.lt).cell (i := 0) rfl
    have b1 := (k5.below hS' k5.lt).cell (i := 1) rfl
    have b2 := (k5.below hS' k5.lt).cell (i := 2) rfl
    go_simp
    rfl
  simp only [List.setIfInBounds_toArray, List.set_cons_zero, List.set_cons_succ]
  refine take_op 13 (v := ?rv13) rfl (by kernel_rfl) (fun _ _ _ h => h) (by rfl) hS (fun w' hS' => ?ry13) ?rz13
  case ry13 =>
    go_simp
    rfl
  simp only [List.setIfInBounds_toArray, List.set_cons_zero, List.set_cons_succ]
  refine take_op 14 (v := ?rv14) rfl (by kernel_rfl) (fun _ _ _ h => h) (by rfl) hS (fun w' hS' => ?ry14) ?rz14
  case ry14 =>
    have a0 := (k6.below hS' k6.lt).cell (i := 0) rfl
    have a1 := (k6.below hS' k6.lt).cell (i := 1) rfl
    have a2 := (k6.below hS' k6.lt).cell (i := 2) rfl
    have a3 := (k6.below hS' k6.lt).cell (i := 3) rfl
    have a4 := (k6.below hS' k6.lt).cell (i := 4) rfl
    have b0 := (k5.below hS' k5.lt).cell (i := 0) rfl
    have b1 := (k5.below hS' k5.lt).cell (i := 1) rfl
    have b2 := (k5.below hS' k5.lt).cell (i := 2) rfl
    go_simp
    rfl
  simp only [List.setIfInBounds_toArray, List.set_cons_zero, List.set_cons_succ]
  refine take_op 15 (v := ?rv15) rfl (by kernel_rfl) (fun _ _ _ h => h) (by rfl) hS (fun w' hS' => ?ry15) ?rz15
  case ry15 =>
    go_simp
    rfl
  simp only [List.setIfInBounds_toArray, List.set_cons_zero, List.set_cons_succ]
  refine take_op 16 (v := ?rv16) rfl (by kernel_rfl) (fun _ _ _ h => h) (by rfl) hS (fun w' hS' => ?ry16) ?rz16
  case ry16 =>
    have a0 := (k6.below hS' k6.lt).cell (i := 0) rfl
    have a1 := (k6.below hS' k6.lt).cell (i := 1) rfl
    have a2 := (k6.below hS' k6.lt).cell (i := 2) rfl
    have a3 := (k6.below hS' k6.lt).cell (i := 3) rfl
    have a4 := (k6.below hS' k6.lt).cell (i := 4) rfl
    have b0 := (k5.below hS' k5.lt).cell (i := 0) rfl
    have b1 := (k5.below hS' k5.lt).cell (i := 1) rfl
    have b2 := (k5.below hS' k5.lt).cell (i := 2) rfl
    go_simp
    rfl
  simp only [List.setIfInBounds_toArray, List.set_cons_zero, List.set_cons_succ]
  refine step_op 5 (by kernel_rfl) rfl (fun K hK => ?_)
  rw [if_pos (by rfl)]
  go_simp
  refine (at_any iw ih x y a c xs n hn _ (Int.le_trans (by decide) q1) (Int.le_trans (Int.le_of_lt q4) (by omega)) q2 q3 (by omega) ((hr.below (Nat.le_refl _) hS).mono hS.size)).mono ?_
  rintro e W1 ⟨rfl, hb2⟩
  rw [hvH.out]
  have hS1 : Below W.heap.size W W1 := hS.trans (hb2.mono hS.size)
  refine hK.out _ _ (fun h => hS1) ?_
  clear hK K
  try simp only [Act.put, List.setIfInBounds_toArray, List.set_cons_zero, List.set_cons_succ]
  refine take_op 6 (v := ?rv6) rfl (by kernel_rfl) (fun _ _ _ h => h) (by rfl) hS1 (fun w' hS' => ?ry6) ?rz6
  case ry6 =>
    go_simp
    try go_ints
    rfl
  simp only [List.setIfInBounds_toArray, List.set_cons_zero, List.set_cons_succ]
  refine take_op 9 (v := ?rv9) rfl (by kernel_rfl) (fun _ _ _ h => h) (by rfl) hS1 (fun w' hS' => ?ry9) ?rz9
  case ry9 =>
    go_simp
    try go_ints
    rfl
  simp only [List.setIfInBounds_toArray, List.set_cons_zero, List.set_cons_succ]
  refine step_op 12 (by kernel_rfl) rfl (fun K hK => ?_)
  rw [if_pos (by rfl)]
  go_simp
  refine (floor_any _ _ _ (by omega) (by omega) (by omega) (by omega)).mono ?_
  rintro e W2 ⟨rfl, rfl⟩
  refine hK.out _ _ (fun h => hS1) ?_
  clear hK K
  try simp only [Act.put, List.setIfInBounds_toArray, List.set_cons_zero, List.set_cons_succ]
  refine step_op 17 (by kernel_rfl) rfl (fun K hK => ?_)
  rw [if_pos (by rfl)]
  go_simp
  refine (into_any _ _ _ _).mono ?_
  rintro e W2 ⟨rfl, rfl⟩
  refine hK.out _ _ (fun h => hS1) ?_
  clear hK K
  try simp only [Act.put, List.setIfInBounds_toArray, List.set_cons_zero, List.set_cons_succ]
  refine take_op 18 (v := ?rv18) rfl (by kernel_rfl) (fun _ _ _ h => h) (by rfl) hS1 (fun w' hS' => ?ry18) ?rz18
  case ry18 =>
    go_simp
    rfl
  simp only [List.setIfInBounds_toArray, List.set_cons_zero, List.set_cons_succ]
  refine done_ops (by kernel_rfl) ?_
  go_wp2_with fail
  go_ret
  exact ⟨ret_int (by unfold pointG pointF; rw [hvH.out]), hS1⟩

/-- What Point returns. -/
def pointS (iw ih : Int) (xs : List Int) (p : PointN) : ImR :=
  if vld iw ih xs = true then (if p.ok = true then { w := iw, h := ih, px := img iw.toNat ih.toNat (pointG iw xs p), err := 0 } else noIm 2) else noIm 20

set_option maxRecDepth 100000 in
set_option maxHeartbeats 4000000 in
theorem Point_any (iw ih : Int) (a : Option Addr) (c n : Nat) (xs : List Int) (hn : Hid (xs.length = n)) (p : PointN) (w : World) (hm : n ≤ 9223372036854775807) (hr : Rd w.heap.size w a xs) :
    Calls Tryz.prog 59 #[imv iw ih a n c, p.val] w (RetIm w.heap.size (pointS iw ih xs p) w) := by
  have hB0 : Below w.heap.size w (((w.alloc (.cells #[.int .i64 iw, .int .i64 ih, .slice a n c] 27)).alloc (.cells p.cells 115)).alloc (.cells #[.int .i64 0, .int .i64 0, .slice none 0 0] 27)) := below_al (below_al (below_al (Below.refl _ _) _) _) _
  obtain ⟨v0, hv⟩ : ∃ v, vld iw ih xs = v := ⟨_, rfl⟩
  have hvH := Lib.hid hv
  obtain ⟨v1, h1⟩ : ∃ v, inR p.mul (-65536) 65536 = v := ⟨_, rfl⟩
  have h1H := Lib.hid h1
  obtain ⟨v2, h2⟩ : ∃ v, ((inR p.add (-2147483648) 2147483648 && inR p.lo (-2147483648) 2147483648) && inR p.hi (-2147483648) 2147483648) = v := ⟨_, rfl⟩
  have h2H := Lib.hid h2
  obtain ⟨v3, h3⟩ : ∃ v, inR p.div 1 65536 = v := ⟨_, rfl⟩
  have h3H := Lib.hid h3
  obtain ⟨v4, h4⟩ : ∃ v, decide (p.lo ≤ p.hi) = v := ⟨_, rfl⟩
  have h4H := Lib.hid h4
  have hsp0 : pointS iw ih xs p = if v0 = true then (if (v1 && v2 && v3 && v4) = true then { w := iw, h := ih, px := img iw.toNat ih.toNat (pointG iw xs p), err := 0 } else noIm 2) else noIm 20 := by
    simp only [pointS, PointN.ok, hv, h1, h2, h3, h4]
  have hsp := Lib.hid hsp0
  clear hv h1 h2 h3 h4 hsp0
  go_enter Tryz.func59, Tryz.ntmps59
  go_wp2_with fail
  refine (valid_any iw ih a c xs n hn _ hm ((hr.below (Nat.le_refl _) hB0).mono hB0.size)).mono ?_
  rintro e W1 ⟨rfl, hb1⟩
  rw [hvH.out]
  have hB1 : Below w.heap.size w W1 := hB0.trans (hb1.mono hB0.size)
  have k5 := (((Blk.new w 27 #[.int .i64 iw, .int .i64 ih, .slice a n c]).alloc (.cells p.cells 115)).alloc (.cells #[.int .i64 0, .int .i64 0, .slice none 0 0] 27)).below hb1 (by simp <;> omega)
  have k6 := ((Blk.new (w.alloc (.cells #[.int .i64 iw, .int .i64 ih, .slice a n c] 27)) 115 p.cells).alloc (.cells #[.int .i64 0, .int .i64 0, .slice none 0 0] 27)).below hb1 (by simp <;> omega)
  have k := (Blk.new ((w.alloc (.cells #[.int .i64 iw, .int .i64 ih, .slice a n c] 27)).alloc (.cells p.cells 115)) 27 #[.int .i64 0, .int .i64 0, .slice none 0 0]).below hb1 (by simp <;> omega)
  simp only [World.size_alloc] at k k6
  clear hb1 hB0
  have hlt := k.lt
  have c0 := k.cell (i := 0) rfl
  have c1 := k.cell (i := 1) rfl
  have c2 := k.cell (i := 2) rfl
  have fc0 := k.frozen 0
  have fc1 := k.frozen 1
  have fc2 := k.frozen 2
  have m0 := k5.cell (i := 0) rfl
  have m1 := k5.cell (i := 1) rfl
  have a0 := k6.cell (i := 0) rfl
  have a1 := k6.cell (i := 1) rfl
  have a2 := k6.cell (i := 2) rfl
  have a3 := k6.cell (i := 3) rfl
  have a4 := k6.cell (i := 4) rfl
  cases v0 with
  | false =>
    go_wp2_with fail
    have kf := put3_blk k (.int .i64 0) (.int .i64 0) (.slice none 0 0)
    have g0 := kf.cell (i := 0) rfl
    have g1 := kf.cell (i := 1) rfl
    have g2 := kf.cell (i := 2) rfl
    exact bodyPost_ret (v := .tuple #[.agg #[.int .i64 0, .int .i64 0, .slice none 0 0], .int .i64 20]) (by simp [results, Tryz.results59, go_sem, g0, g1, g2]) rfl ⟨⟨_, by rw [hsp.out]; rfl, by rw [hsp.out]; exact OwnIm_nil _ _⟩, hB1.trans (put3_below (by omega) _ _ _)⟩
  | true =>
    go_wp2_with fail
    refine (within1 (-65536) 65536 p.mul v1 h1H.out _ _ _ _ (cell_new (by simp) rfl)).mono ?_
    rintro e W2 ⟨rfl, hW⟩
    have hb : Below W1.heap.size W1 W2 := alloc_below hW
    clear hW
    have hB2 := hB1.trans (hb.mono hB1.size)
    clear c0 c1 c2 fc0 fc1 fc2
    replace k := k.below hb k.lt
    have c0 := k.cell (i := 0) rfl
    have c1 := k.cell (i := 1) rfl
    have c2 := k.cell (i := 2) rfl
    have fc0 := k.frozen 0
    have fc1 := k.frozen 1
    have fc2 := k.frozen 2
    clear m0 m1
    replace k5 := k5.below hb k5.lt
    have m0 := k5.cell (i := 0) rfl
    have m1 := k5.cell (i := 1) rfl
    clear a0 a1 a2 a3 a4
    replace k6 := k6.below hb k6.lt
    have a0 := k6.cell (i := 0) rfl
    have a1 := k6.cell (i := 1) rfl
    have a2 := k6.cell (i := 2) rfl
    have a3 := k6.cell (i := 3) rfl
    have a4 := k6.cell (i := 4) rfl
    clear hb
    replace hlt := k.lt
    cases v1 with
    | false =>
      go_wp2_with fail
      have kf := put3_blk k (.int .i64 0) (.int .i64 0) (.slice none 0 0)
      have g0 := kf.cell (i := 0) rfl
      have g1 := kf.cell (i := 1) rfl
      have g2 := kf.cell (i := 2) rfl
      exact bodyPost_ret (v := .tuple #[.agg #[.int .i64 0, .int .i64 0, .slice none 0 0], .int .i64 2]) (by simp [results, Tryz.results59, go_sem, g0, g1, g2]) rfl ⟨⟨_, by rw [hsp.out]; rfl, by rw [hsp.out]; exact OwnIm_nil _ _⟩, hB2.trans (put3_below (by omega) _ _ _)⟩
    | true =>
      go_wp2_with fail
      refine (within3 (-2147483648) 2147483648 p.add p.lo p.hi v2 h2H.out _ _ _ 3 (Blk.new _ _ _)).mono ?_
      rintro e W3 ⟨rfl, hW⟩
      have hb : Below W2.heap.size W2 W3 := alloc_below hW
      clear hW
      have hB3 := hB2.trans (hb.mono hB2.size)
      clear c0 c1 c2 fc0 fc1 fc2
      replace k := k.below hb k.lt
      have c0 := k.cell (i := 0) rfl
      have c1 := k.cell (i := 1) rfl
      have c2 := k.cell (i := 2) rfl
      have fc0 := k.frozen 0
      have fc1 := k.frozen 1
      have fc2 := k.frozen 2
      clear m0 m1
      replace k5 := k5.below hb k5.lt
      have m0 := k5.cell (i := 0) rfl
      have m1 := k5.cell (i := 1) rfl
      clear a0 a1 a2 a3 a4
      replace k6 := k6.below hb k6.lt
      have a0 := k6.cell (i := 0) rfl
      have a1 := k6.cell (i := 1) rfl
      have a2 := k6.cell (i := 2) rfl
      have a3 := k6.cell (i := 3) rfl
      have a4 := k6.cell (i := 4) rfl
      clear hb
      replace hlt := k.lt
      cases v2 with
      | false =>
        go_wp2_with fail
        have kf := put3_blk k (.int .i64 0) (.int .i64 0) (.slice none 0 0)
        have g0 := kf.cell (i := 0) rfl
        have g1 := kf.cell (i := 1) rfl
        have g2 := kf.cell (i := 2) rfl
        exact bodyPost_ret (v := .tuple #[.agg #[.int .i64 0, .int .i64 0, .slice none 0 0], .int .i64 2]) (by simp [results, Tryz.results59, go_sem, g0, g1, g2]) rfl ⟨⟨_, by rw [hsp.out]; rfl, by rw [hsp.out]; exact OwnIm_nil _ _⟩, hB3.trans (put3_below (by omega) _ _ _)⟩
      | true =>
        go_wp2_with fail
        refine (within1 1 65536 p.div v3 h3H.out _ _ _ _ (cell_new (by simp) rfl)).mono ?_
        rintro e W4 ⟨rfl, hW⟩
        have hb : Below W3.heap.size W3 W4 := alloc_below hW
        clear hW
        have hB4 := hB3.trans (hb.mono hB3.size)
        clear c0 c1 c2 fc0 fc1 fc2
        replace k := k.below hb k.lt
        have c0 := k.cell (i := 0) rfl
        have c1 := k.cell (i := 1) rfl
        have c2 := k.cell (i := 2) rfl
        have fc0 := k.frozen 0
        have fc1 := k.frozen 1
        have fc2 := k.frozen 2
        clear m0 m1
        replace k5 := k5.below hb k5.lt
        have m0 := k5.cell (i := 0) rfl
        have m1 := k5.cell (i := 1) rfl
        clear a0 a1 a2 a3 a4
        replace k6 := k6.below hb k6.lt
        have a0 := k6.cell (i := 0) rfl
        have a1 := k6.cell (i := 1) rfl
        have a2 := k6.cell (i := 2) rfl
        have a3 := k6.cell (i := 3) rfl
        have a4 := k6.cell (i := 4) rfl
        clear hb
        replace hlt := k.lt
        cases v3 with
        | false =>
          go_wp2_with fail
          have kf := put3_blk k (.int .i64 0) (.int .i64 0) (.slice none 0 0)
          have g0 := kf.cell (i := 0) rfl
          have g1 := kf.cell (i := 1) rfl
          have g2 := kf.cell (i := 2) rfl
          exact bodyPost_ret (v := .tuple #[.agg #[.int .i64 0, .int .i64 0, .slice none 0 0], .int .i64 2]) (by simp [results, Tryz.results59, go_sem, g0, g1, g2]) rfl ⟨⟨_, by rw [hsp.out]; rfl, by rw [hsp.out]; exact OwnIm_nil _ _⟩, hB4.trans (put3_below (by omega) _ _ _)⟩
        | true =>
          cases v4 with
          | false =>
            have h4v := h4H.out
            simp only [decide_eq_false_iff_not, Int.not_le] at h4v
            go_wp2_with fail
            have kf := put3_blk k (.int .i64 0) (.int .i64 0) (.slice none 0 0)
            have g0 := kf.cell (i := 0) rfl
            have g1 := kf.cell (i := 1) rfl
            have g2 := kf.cell (i := 2) rfl
            exact bodyPost_ret (v := .tuple #[.agg #[.int .i64 0, .int .i64 0, .slice none 0 0], .int .i64 2]) (by simp [results, Tryz.results59, go_sem, g0, g1, g2]) rfl ⟨⟨_, by rw [hsp.out]; rfl, by rw [hsp.out]; exact OwnIm_nil _ _⟩, hB4.trans (put3_below (by omega) _ _ _)⟩
          | true =>
            have h4v := h4H.out
            simp only [decide_eq_true_eq] at h4v
            obtain ⟨⟨i1, i2⟩, ⟨i3, i4⟩, hlen, hall⟩ := vld_true hvH.out
            rw [hn.out] at hlen
            have hlenH := Lib.hid hlen
            have hallH := Lib.hid hall
            clear hlen hall
            have hok : p.ok = true := by simp only [PointN.ok, h1H.out, h2H.out, h3H.out, h4H.out]; rfl
            have hokH := Lib.hid hok
            clear hok
            obtain ⟨pw, rfl⟩ : ∃ pw : Nat, iw = (pw : Int) := ⟨iw.toNat, by omega⟩
            obtain ⟨ph, rfl⟩ : ∃ ph : Nat, ih = (ph : Int) := ⟨ih.toNat, by omega⟩
            go_wp2_with fail
            refine (made_any pw ph (by omega) (by omega) (by omega) (by omega) 99 #[.pointer (some ⟨w.heap.size + 1, 0, none⟩), .pointer (some ⟨w.heap.size, 0, none⟩)] (enters_of Tryz.func99 (by kernel_rfl) rfl) (pointG pw xs p) W4 (fun x y W hx hy hb => ?_)).mono ?_
            · exact Point1_any pw ph a c n xs hn hallH p hokH.out x y (w.heap.size + 1) w.heap.size W i1 i2 i3 i4 hlenH (by omega) (by omega) (by omega) (by omega) (k6.below hb k6.lt) (k5.below hb k5.lt) ((hr.below (Nat.le_refl _) (hB4.trans (hb.mono hB4.size))).mono (Nat.le_trans hB4.size hb.size))
            rintro e W7 ⟨v, rfl, ⟨s, rfl, hrow⟩, hb2⟩
            clear c0 c1 c2 fc0 fc1 fc2
            replace k := k.below hb2 k.lt
            have c0 := k.cell (i := 0) rfl
            have c1 := k.cell (i := 1) rfl
            have c2 := k.cell (i := 2) rfl
            have fc0 := k.frozen 0
            have fc1 := k.frozen 1
            have fc2 := k.frozen 2
            obtain ⟨sa, sc, rfl⟩ := row_slice hrow
            go_wp2_with fail
            have kf := put3_blk k (.int .i64 pw) (.int .i64 ph) (.slice sa (img pw ph (pointG pw xs p)).length sc)
            have g0 := kf.cell (i := 0) rfl
            have g1 := kf.cell (i := 1) rfl
            have g2 := kf.cell (i := 2) rfl
            exact bodyPost_ret (v := .tuple #[.agg #[.int .i64 pw, .int .i64 ph, .slice sa (img pw ph (pointG pw xs p)).length sc], .int .i64 0]) (by simp [results, Tryz.results59, go_sem, g0, g1, g2]) rfl ⟨⟨_, by rw [hsp.out]; rfl, by rw [hsp.out]; exact OwnIm.weaken ⟨_, rfl, put3_row hrow (k.not_row (by decide) hrow) _ _ _⟩ hB4.size⟩, (hB4.trans (hb2.mono hB4.size)).trans (put3_below (by omega) _ _ _)⟩

end Go.Proofs.YtbfigbpjoaccdaaGreat

namespace Go.Proofs.YtbfigbpjoaccdaaGreat
open Go Go.RowKit Go.Shelf
set_option linter.unusedVariables false
set_option linter.unusedSimpArgs false

theorem cXY (pw k : Nat) : cY pw k * pw + cX pw k = k := by
  have h := Nat.div_add_mod k pw
  rw [Nat.mul_comm] at h
  unfold cX cY
  rw [← Int.natCast_mul, ← Int.natCast_add, h]

theorem rd_at {B : Nat} {W : World} {a : Option Addr} {xs : List Int} {n : Nat} (h : Rd B W a xs) (hn : xs.length = n) (h0 : 0 < n) : ∃ b o, a = some ⟨b, o, none⟩ ∧ b < B ∧ ∀ i, i < n → W.cell? ⟨b, o + i, none⟩ = some (.int .i64 (px xs i)) := by
  rcases h with h | ⟨b, o, h1, h2, h3⟩
  · subst h; simp at hn; omega
  · exact ⟨b, o, h1, h2, fun i hi => by rw [h3 i (by omega)]; rfl⟩

end Go.Proofs.YtbfigbpjoaccdaaGreat
