/- The statement RelayBack. -/
import Derived.Test.YtdnbbjhickjnmaaV2
import Derived.Test.YtdnbbjhickjnmaaR10
import Derived.Deep.Slices
namespace Go.Proofs.Ytdnbbjhickjnmaa
open Go.RowKit Go.WideShapes Go.ChangeShapes
set_option maxRecDepth 20000
set_option linter.unusedVariables false
set_option linter.unusedSimpArgs false

theorem vframe_cells : Try.prog.cellsOf 31 = 3 := by kernel_rfl
theorem vint_cells : Try.prog.cellsOf 3 = 1 := by kernel_rfl
theorem vrow_cells : Try.prog.cellsOf 29 = 1 := by kernel_rfl

theorem open_farg {H : Type} {enc : TypeId × Value → H} {W : World} {base : Nat} {sp : Nat → Bool} {held : Bool} {v : Value} {d : DataW H} {pl : List MemPlace} (hv : Value.okWide Try.prog W .any base 31 v) (ht : DataW.Trod enc Try.prog W 0 sp held 31 v d pl)
    (hz : ∀ n ∈ d.weights Try.prog 31, n ≤ reachBytes) : ∃ (f t : Int) (A : Option Addr) (c : Nat) (bs : List Int), v = .agg #[.int .i64 f, .int .i64 t, .slice A bs.length c] ∧ Byt bs ∧ bs.length ≤ 140737488351232 ∧ Rd W (fun i => i < W.heap.size) 1 (.slice A bs.length c) bs.length (bts bs) := by
  simp only [Value.okWide, Try.underlying31] at hv
  obtain ⟨cs, rfl, hsz, _⟩ := hv
  obtain ⟨cs⟩ := cs
  rw [vframe_cells] at hsz
  obtain ⟨fuel, hf⟩ := ht
  obtain ⟨xs, m, _, hdp, hl, hxl, hfs⟩ := DataW.trod_struct Try.underlying31 hf
  simp only [Prod.mk.injEq] at hdp
  obtain ⟨rfl, _⟩ := hdp
  have g0 := hfs 0 _ rfl
  have g1 := hfs 1 _ rfl
  have g2 := hfs 2 _ rfl
  match cs, hsz with
  | [c0, c1, c2], _ =>
    match xs, hxl with
    | [y0, y1, y2], _ =>
      simp [vint_cells, vrow_cells, Value.cells] at g0 g1 g2
      obtain ⟨a, e0, _, w0⟩ := DataW.trod_int Try.underlying3 g0
      obtain ⟨b, e1, _, w1⟩ := DataW.trod_int Try.underlying3 g1
      obtain ⟨A, c', bs, e2, hb, hbl, hr⟩ := open_bytes_f g2 (fun n hn => hz n (by simp only [DataW.weights, Try.underlying31]; simp [DataW.weightsEach, hn]))
      simp at e0 e1 e2
      subst e0 e1 e2
      exact ⟨a, b, A, c', bs, rfl, hb, hbl, hr⟩

theorem packL_byt {f t : Int} {bs : List Int} (h : chkE f t bs.length = 0) (hb : Byt bs) : Byt (packL f t bs) := by
  obtain ⟨hf, ht, hn⟩ := chk_ok h
  have hf' := nodeB_bd hf
  have ht' := nodeB_bd ht
  intro x hx
  simp only [packL, Wr.lay, List.nil_append, List.append_assoc, List.mem_append, List.mem_singleton] at hx
  rcases hx with rfl | rfl | hx | hx
  · omega
  · omega
  · exact Wr.be_byt _ _ x hx
  · exact hb x hx
theorem eqB_self (xs : List Int) : eqB xs xs = true := by simp [eqB]
theorem same_self (f t : Int) (xs : List Int) : sameF f t f t xs xs = true := by simp [sameF, eqB]

set_option maxHeartbeats 4000000 in
theorem back_walk (W : World) (f t : Int) (A : Option Addr) (c : Nat) (bs : List Int) (hbs : Byt bs) (hbl : bs.length ≤ 140737488351232) (hbr : Rd W (fun i => i < W.heap.size) 1 (.slice A bs.length c) bs.length (bts bs))
    (Ay : Option Addr) (cy : Nat) (ys : List Int) (hys : Byt ys) (hyl : ys.length ≤ 140737488351232) (hyr : Rd W (fun i => i < W.heap.size) 1 (.slice Ay ys.length cy) ys.length (bts ys)) :
    Calls Try.prog 12 #[.agg #[.int .i64 f, .int .i64 t, .slice A bs.length c], .slice Ay ys.length cy] W fun e w' => e = .returned (.bool true) ∧ Below W.heap.size W w' := by
  have HBS := Lib.hid (And.intro hbs hbr)
  have HYS := Lib.hid (And.intro hys hyr)
  clear hbs hbr hys hyr
  go_enter Try.func12, Try.ntmps12
  go_wp2_with fail
  refine (works_any _).mono ?_
  rintro e w1 ⟨rfl, hb1⟩
  have HB1 := Lib.hid ((Blk.new W 31 #[.int .i64 f, .int .i64 t, .slice A bs.length c]).later hb1)
  have HW1 := Lib.hid (Bt (Ba (B0 W) (.cells #[.int .i64 f, .int .i64 t, .slice A bs.length c] 31)) hb1)
  obtain ⟨x0, x1, x2, g0, g1, g2⟩ := blk3 HB1.out
  have lb := HB1.out.lt
  clear hb1
  by_cases hc : chkE f t bs.length = 0
  · go_wp2_with fail
    refine (pack_ok _ f t A c bs w1 (HBS.out.2.below HW1.out (fun i hi => hi)) (fun i hi => Nat.lt_of_lt_of_le hi HW1.out.size) hc).mono ?_
    rintro e w2 ⟨A2, c2, rfl, HF2⟩
    have hpl := packL_len f t bs
    obtain ⟨u1, u2, u3, u4⟩ := pack_un f t bs hc
    have hpb := packL_byt hc HBS.out.1
    obtain ⟨xs, hxs⟩ : ∃ xs, xs = packL f t bs := ⟨_, rfl⟩
    rw [← hxs] at HF2 hpl u1 u2 u3 u4 hpb ⊢
    have HU := Lib.hid (And.intro u1 (And.intro u2 (And.intro u3 u4)))
    have hn := (chk_ok hc).2.2
    have HPB := Lib.hid (And.intro hpb HF2)
    have HPL := Lib.hid hpl
    have hxl : xs.length ≤ 5000 := by omega
    have HB2 := Lib.hid (HB1.out.later HF2.kept)
    have HW2 := Lib.hid (Bt HW1.out HF2.kept)
    clear x0 x1 x2 g0 g1 g2 hc hxs hpl u1 u2 u3 u4 hpb HF2
    go_wp2_with fail
    refine (un_any _ A2 c2 xs w2 HPB.out.2.rd (fun i hi => hi) HPB.out.1 (by omega)).mono ?_
    rintro e w3 ⟨A3, c3, rfl, HF3⟩
    rw [HU.out.1, HU.out.2.1, HU.out.2.2.1, HU.out.2.2.2]
    rw [HU.out.2.2.2] at HF3
    have HF3' := Lib.hid HF3
    have HB3 := Lib.hid (HB2.out.later HF3.kept)
    have HW3 := Lib.hid (Bt HW2.out HF3.kept)
    obtain ⟨x0, x1, x2, g0, g1, g2⟩ := blk3 HB3.out
    have lb3 := HB3.out.lt
    have hq : ((xs.length : Int) != (bs.length : Int) + 4) = false := by have := HPL.out; simp; omega
    clear HF3
    go_wp2_with fail
    refine (same_any (fun i => i < W.heap.size) (fun i => i < w3.heap.size) f t f t A A3 c c3 bs bs _ (HBS.out.2.below (by repeat (first | exact HW3.out | apply Bs | apply Bd | apply BdN | apply Ba | (simp; done) | (simp; omega))) (fun i hi => hi)) (fun i hi => by have := HW3.out.size; simp; omega)
      (HF3'.out.rd.below (by repeat (first | exact B0 _ | apply Bs | apply Bd | apply BdN | apply Ba | (simp; done) | (simp; omega))) (fun i hi => hi)) (fun i hi => by simp; omega)).mono ?_
    rintro e w4 ⟨rfl, hb4⟩
    rw [same_self]
    have HW4 := Lib.hid (Bt (Ba HW3.out _) hb4)
    have HB4 := Lib.hid ((HB3.out.alloc _).later hb4)
    clear x0 x1 x2 g0 g1 g2 hb4
    obtain ⟨x0, x1, x2, g0, g1, g2⟩ := blk3 HB4.out
    have lb4 := HB4.out.lt
    go_wp2_with fail
    refine (un_any _ Ay cy ys w4 (HYS.out.2.below HW4.out (fun i hi => hi)) (fun i hi => Nat.lt_of_lt_of_le hi HW4.out.size) HYS.out.1 hyl).mono ?_
    rintro e w5 ⟨A5, c5, rfl, HF5⟩
    have HW5 := Lib.hid (Bt HW4.out HF5.kept)
    have lw5 := HW5.out.size
    by_cases hE : unE ys = 0
    · obtain ⟨p1, p2⟩ := un_pack ys HYS.out.1 hE
      obtain ⟨F, hF⟩ : ∃ F, F = unF ys := ⟨_, rfl⟩
      obtain ⟨T, hT⟩ : ∃ T, T = unT ys := ⟨_, rfl⟩
      obtain ⟨B, hB⟩ : ∃ B, B = unB ys := ⟨_, rfl⟩
      rw [← hF, ← hT, ← hB] at p1 p2
      rw [← hB] at HF5
      rw [hE, ← hF, ← hT, ← hB]
      have HF5' := Lib.hid HF5
      have HP := Lib.hid (And.intro p1 p2)
      clear hE hF hT hB p1 p2 HF5
      go_wp2_with fail
      refine (pack_ok (fun i => i < w5.heap.size) F T A5 c5 B _ (HF5'.out.rd.below (by repeat (first | exact B0 _ | apply Bs | apply Bd | apply BdN | apply Ba | (simp; done) | (simp; omega))) (fun i hi => hi)) (fun i hi => by simp; omega) HP.out.1).mono ?_
      rw [HP.out.2]
      rintro e w6 ⟨A6, c6, rfl, HF6⟩
      have HF6' := Lib.hid HF6
      have HW6 := Lib.hid (Bt (Ba HW5.out _) HF6.kept)
      clear HF6
      go_wp2_with fail
      refine (eq_bytes _ _ _ _ ys ys _ HF6'.out.rd (HYS.out.2.below HW6.out (fun i hi => hi))).mono ?_
      rintro e w7 ⟨rfl, n7, rfl⟩
      rw [eqB_self]
      go_wp2_with fail
      go_ret
      exact ⟨rfl, BdN HW6.out n7⟩
    · have h1 : unF ys = 0 := by unfold unF; rw [if_neg hE]
      have h2 : unT ys = 0 := by unfold unT; rw [if_neg hE]
      have h3 : unB ys = [] := by unfold unB; rw [if_neg hE]
      obtain ⟨E, hEE⟩ : ∃ E, E = unE ys := ⟨_, rfl⟩
      rw [h1, h2, h3, ← hEE]
      rw [h3] at HF5
      rw [← hEE] at hE
      have hEn : (E != 0) = true := by simp [hE]
      have HF5' := Lib.hid HF5
      clear hE hEE h1 h2 h3 HF5
      go_wp2_with fail
      refine (same_any (fun i => i < w5.heap.size) (fun _ => False) 0 0 0 0 A5 none c5 0 [] [] _ (HF5'.out.rd.below (by repeat (first | exact B0 _ | apply Bs | apply Bd | apply BdN | apply Ba | (simp; done) | (simp; omega))) (fun i hi => hi)) (fun i hi => by simp; omega)
        (Rd.nil _ _ _) (fun i hi => hi.elim)).mono ?_
      rintro e w6 ⟨rfl, hb6⟩
      rw [same_self]
      have HW6 := Lib.hid (Bt (Ba HW5.out _) hb6)
      clear hb6
      go_wp2_with fail
      go_ret
      exact ⟨rfl, HW6.out⟩

  · obtain ⟨E0, hE0⟩ : ∃ E0, E0 = chkE f t bs.length := ⟨_, rfl⟩
    have hne : (E0 == 0) = false := by simpa [hE0] using hc
    have HC := Lib.hid (And.intro hc hE0)
    clear hc
    go_wp2_with fail
    refine (pack_bad f t A bs.length c w1 HC.out.1).mono ?_
    rw [← HC.out.2]
    rintro e w4 ⟨rfl, hb4⟩
    have HW4 := Lib.hid (Bt HW1.out hb4)
    clear x0 x1 x2 g0 g1 g2 hb4 hE0
    go_wp2_with fail
    refine (un_any _ Ay cy ys w4 (HYS.out.2.below HW4.out (fun i hi => hi)) (fun i hi => Nat.lt_of_lt_of_le hi HW4.out.size) HYS.out.1 hyl).mono ?_
    rintro e w5 ⟨A5, c5, rfl, HF5⟩
    have HW5 := Lib.hid (Bt HW4.out HF5.kept)
    have lw5 := HW5.out.size
    by_cases hE : unE ys = 0
    · obtain ⟨p1, p2⟩ := un_pack ys HYS.out.1 hE
      obtain ⟨F, hF⟩ : ∃ F, F = unF ys := ⟨_, rfl⟩
      obtain ⟨T, hT⟩ : ∃ T, T = unT ys := ⟨_, rfl⟩
      obtain ⟨B, hB⟩ : ∃ B, B = unB ys := ⟨_, rfl⟩
      rw [← hF, ← hT, ← hB] at p1 p2
      rw [← hB] at HF5
      rw [hE, ← hF, ← hT, ← hB]
      have HF5' := Lib.hid HF5
      have HP := Lib.hid (And.intro p1 p2)
      clear hE hF hT hB p1 p2 HF5
      go_wp2_with fail
      refine (pack_ok (fun i => i < w5.heap.size) F T A5 c5 B _ (HF5'.out.rd.below (by repeat (first | exact B0 _ | apply Bs | apply Bd | apply BdN | apply Ba | (simp; done) | (simp; omega))) (fun i hi => hi)) (fun i hi => by simp; omega) HP.out.1).mono ?_
      rw [HP.out.2]
      rintro e w6 ⟨A6, c6, rfl, HF6⟩
      have HF6' := Lib.hid HF6
      have HW6 := Lib.hid (Bt (Ba HW5.out _) HF6.kept)
      clear HF6
      go_wp2_with fail
      refine (eq_bytes _ _ _ _ ys ys _ HF6'.out.rd (HYS.out.2.below HW6.out (fun i hi => hi))).mono ?_
      rintro e w7 ⟨rfl, n7, rfl⟩
      rw [eqB_self]
      go_wp2_with fail
      go_ret
      exact ⟨rfl, BdN HW6.out n7⟩
    · have h1 : unF ys = 0 := by unfold unF; rw [if_neg hE]
      have h2 : unT ys = 0 := by unfold unT; rw [if_neg hE]
      have h3 : unB ys = [] := by unfold unB; rw [if_neg hE]
      obtain ⟨E, hEE⟩ : ∃ E, E = unE ys := ⟨_, rfl⟩
      rw [h1, h2, h3, ← hEE]
      rw [h3] at HF5
      rw [← hEE] at hE
      have hEn : (E != 0) = true := by simp [hE]
      have HF5' := Lib.hid HF5
      clear hE hEE h1 h2 h3 HF5
      go_wp2_with fail
      refine (same_any (fun i => i < w5.heap.size) (fun _ => False) 0 0 0 0 A5 none c5 0 [] [] _ (HF5'.out.rd.below (by repeat (first | exact B0 _ | apply Bs | apply Bd | apply BdN | apply Ba | (simp; done) | (simp; omega))) (fun i hi => hi)) (fun i hi => by simp; omega)
        (Rd.nil _ _ _) (fun i hi => hi.elim)).mono ?_
      rintro e w6 ⟨rfl, hb6⟩
      rw [same_self]
      have HW6 := Lib.hid (Bt (Ba HW5.out _) hb6)
      clear hb6
      go_wp2_with fail
      go_ret
      exact ⟨rfl, HW6.out⟩

theorem relayBack_walk {H : Type} {enc : TypeId × Value → H} (W : World) {base : Nat} {sp : Nat → Bool} {held : Bool} {v1 : Value} {d1 : DataW H} {p1 : List MemPlace} (hv1 : Value.okWide Try.prog W .any base 31 v1) (ht1 : DataW.Trod enc Try.prog W 0 sp held 31 v1 d1 p1) (hz1 : ∀ n ∈ d1.weights Try.prog 31, n ≤ reachBytes)
    {base2 : Nat} {sp2 : Nat → Bool} {held2 : Bool} {v2 : Value} {d2 : DataW H} {p2 : List MemPlace} (hv2 : Value.okWide Try.prog W .any base2 29 v2) (ht2 : DataW.Trod enc Try.prog W 0 sp2 held2 29 v2 d2 p2) (hz2 : ∀ n ∈ d2.weights Try.prog 29, n ≤ reachBytes) :
    Calls Try.prog 12 #[v1, v2] W fun e w' => e = .returned (.bool true) ∧ Below W.heap.size W w' := by
  obtain ⟨f, t, A, c, bs, rfl, h1, h2, h3⟩ := open_farg hv1 ht1 hz1
  obtain ⟨Ay, cy, ys, rfl, h4, h5, h6⟩ := open_bytes hv2 ht2 hz2
  exact back_walk W f t A c bs h1 h2 h3 Ay cy ys h4 h5 h6
end Go.Proofs.Ytdnbbjhickjnmaa
