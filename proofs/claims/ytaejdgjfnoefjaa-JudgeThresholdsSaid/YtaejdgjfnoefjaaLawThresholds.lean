/- The walk of the law JudgeThresholds: it returns true, and nothing that lay has turned. -/
import Derived.Test.YtaejdgjfnoefjaaTr
import Derived.Test.YtaejdgjfnoefjaaImgE
namespace Go.Proofs.Ytaejdgjfnoefjaa
open Go Go.RowKit Go.Shelf
set_option linter.unusedVariables false
set_option linter.unusedSimpArgs false

set_option maxRecDepth 100000 in
set_option maxHeartbeats 4000000 in
theorem law_thresholds (ga ba : Option Addr) (gc bc gn bn : Nat) (gs bs : List Int) (hgn : gs.length = gn) (hbn : bs.length = bn) (hgl : gn * 8 ≤ 140737488355328) (hbl : bn * 8 ≤ 140737488355328) (miss alarm : Int)
    (w : World) (hrg : Rd w.heap.size w ga gs) (hrb : Rd w.heap.size w ba bs) :
    Calls Try.prog 9 #[.slice ga gn gc, .slice ba bn bc, .int .i64 miss, .int .i64 alarm] w fun e w' => e = .returned (.bool true) ∧ Below w.heap.size w w' := by
  obtain ⟨i0, hi, hz0, hz1, hz2⟩ := info_parts jinfo_int
  have hB1 : Below w.heap.size w (w.alloc (.cells #[] 3)) := jb_al (Below.refl _ w) _
  have own1 := World.ownsRow_made (e := 3) (size := 1) (base := w.heap.size) w #[] 0 (Nat.le_refl _) (by decide) rfl
  have hn1 := ((hrg.below (Nat.le_refl _) hB1)).news hgn
  have hn2 := Lib.hid (fun (W : World) (hb : Below w.heap.size w W) => ((hrb.below (Nat.le_refl _) hb)).news hbn)
  have own1H := Lib.hid own1
  have hn1H := Lib.hid hn1
  have hone1 := Lib.hid (vint_one gs)
  have hone2 := Lib.hid (vint_one bs)
  have hgnH := Lib.hid hgn
  have hbnH := Lib.hid hbn
  have hB1H := Lib.hid hB1
  have hrgH := Lib.hid hrg
  have hrbH := Lib.hid hrb
  have tok1 : True := trivial
  clear own1 hn1 hB1 hgn hbn hrg hrb
  go_enter Try.func9, Try.ntmps9
  go_wp2_with (first
    | (at_builtin; refine wpList_append_any rfl (.tmp 17) (.tmp 18) 24 rfl w.heap.size 3 i0 (.int .i64 0) 8 Try.underlying24 hi hz0 hz1 hz2 rfl (.slice (some ⟨w.heap.size, 0, none⟩) 0 0) 0 [] rfl own1H.out ga gn gc (gs.map (Value.int .i64)) rfl (by rw [List.length_map]; exact hgnH.out) hn1H.out hone1.out (by unfold maxLen; omega) (by omega) hB1H.out.size ?_; intro v2 W2 own2 hg2 _; rw [Nat.zero_add, List.nil_append] at own2; have hB2 := hB1H.out.grown hg2 hB1H.out.size (fun k e => (own1H.out.lt k e).1); obtain ⟨a2, c2, rfl⟩ := jrow_slice own2; have own2H := Lib.hid (own2.alloc (.cells #[] 3)); have hB3 := jb_al hB2 (.cells #[] 3); have hn2' := Lib.hid (hn2.out _ hB3); have own3H := Lib.hid (World.ownsRow_made (e := 3) (size := 1) (base := w.heap.size) W2 #[] 0 hB2.size (by decide) rfl); have hne := (show (Value.slice a2 gn c2).ownBlock ≠ some W2.heap.size from fun e => by have := (own2.lt _ e).2; omega); clear hg2 own2)
    | (at_builtin; refine wpList_append_any rfl (.tmp 20) (.tmp 21) 24 rfl w.heap.size 3 i0 (.int .i64 0) 8 Try.underlying24 hi hz0 hz1 hz2 rfl (.slice (some ⟨W2.heap.size, 0, none⟩) 0 0) 0 [] rfl own3H.out ba bn bc (bs.map (Value.int .i64)) rfl (by rw [List.length_map]; exact hbnH.out) hn2'.out hone2.out (by unfold maxLen; omega) (by omega) hB3.size ?_; intro v4 W4 own4 hg4 _; rw [Nat.zero_add, List.nil_append] at own4; have hB4 := hB3.grown hg4 hB3.size (fun k e => (own3H.out.lt k e).1); have own2b := own2H.out.kept hg4 (.inr hne); obtain ⟨a4, c4, rfl⟩ := jrow_slice own4; have rg4 := Lib.hid (rowI_rd hgnH.out own2b); have rb4 := Lib.hid (rowI_rd hbnH.out own4); clear hg4 own4 own2b own2H own3H hn2')
    | (go_at_call 34; refine (Threshold_any a2 a4 c2 c4 gn bn gs bs hgnH.out hbnH.out (by omega) (by omega) miss alarm W4 rg4.out rb4.out).mono ?_; rintro e w5 ⟨t1, x1, f1, rfl, hb5, hS1⟩; have hB5 := hB4.trans (hb5.mono hB4.size); have rg5 := Lib.hid (rd_later rg4.out hb5); have rb5 := Lib.hid (rd_later rb4.out hb5); clear hb5)
    | (go_at_call 35; refine (rThreshold_any ga ba gc bc gn bn gs bs hgnH.out hbnH.out (by omega) (by omega) miss alarm w5 (rd_later hrgH.out hB5) (rd_later hrbH.out hB5)).mono ?_; rintro e w6 ⟨t2, x2, f2, rfl, hb6, hS2⟩; have hB6 := hB5.trans (hb6.mono hB5.size); have rg6 := Lib.hid (rd_later rg5.out hb6); have rb6 := Lib.hid (rd_later rb5.out hb6); obtain ⟨rfl, rfl, rfl⟩ := hS1.unique hS2; clear hb6 hS1 hS2)
    | (go_at_call 12; have _t := tok1; refine (SameInts_eq a2 ga c2 gc gn gs (Lib.hid hgnH.out) w6 (by omega) rg6.out (rd_later hrgH.out hB6)).mono ?_; clear _t tok1; rintro e w7 ⟨rfl, hb7⟩; have hB7 := hB6.trans (hb7.mono hB6.size); have rb7 := Lib.hid (rd_later rb6.out hb7); clear hb7)
    | (go_at_call 12; refine (SameInts_eq a4 ba c4 bc bn bs (Lib.hid hbnH.out) w7 (by omega) rb7.out (rd_later hrbH.out hB7)).mono ?_; rintro e w8 ⟨rfl, hb8⟩; have hB8 := hB7.trans (hb8.mono hB7.size); clear hb8))
  go_ret
  exact ⟨ret_b (by simp), hB8⟩

end Go.Proofs.Ytaejdgjfnoefjaa
