/- The reference's lane: Take, whatever comes; two lanes and the reference's beside them. -/
import Derived.Test.YtekedgokmmkplaaH4
namespace Go.Proofs.Ytekedgokmmkplaa
open Go.RowKit
set_option maxRecDepth 20000
set_option linter.unusedVariables false
set_option linter.unusedSimpArgs false

set_option maxHeartbeats 1000000 in
theorem rltake_out (S : Nat → Prop) (p : Nat) (ds : List Dg) (sd i : Int) (w : World) (h : RlAt w S p ds sd) (hmost : ds.length ≤ 4096) (hin : inR ds.length i = false) :
    Calls Try.prog 34 #[.pointer (some ⟨p, 0, none⟩), .int .i64 i] w (RTook S p ds sd i w) := by
  have he : seeE ds i = 9 := by simp [seeE, hin]
  have hd : seeD ds i = ⟨0, 0, []⟩ := by simp [seeD, hin]
  have hl : takL ds i = ds := by simp [takL, hin]
  unfold RTook
  rw [he, hd, hl]
  have H := Lib.hid h
  have HE := Lib.hid he
  have HD := Lib.hid hd
  clear h hin he hd hl
  go_enter Try.func34, Try.ntmps34
  go_wp2_with fail
  refine (rlsee_any S p ds sd i _ (H.out.below (Ba (B0 w) _)) hmost).mono ?_
  rintro e w1 ⟨A1, c1, rfl, HF⟩
  rw [HE.out, HD.out]
  rw [HD.out] at HF
  have HFF := Lib.hid HF
  have hb1 := Lib.hid (Bt (Ba (B0 w) (.cells #[.int .i64 0, .int .i64 0, .slice none 0 0] 30)) HF.kept)
  have hres := (Blk.new w 30 #[.int .i64 0, .int .i64 0, .slice none 0 0]).later HF.kept
  have lres := hres.lt
  obtain ⟨r0, r1, r2, s0, s1, s2⟩ := blk3 hres
  have HRES := Lib.hid hres
  clear HF hres
  go_wp2_with fail
  obtain ⟨x0, x1, x2, _⟩ := blk3 ((HRES.out.set3 (.int .i64 0) (.int .i64 0) (.slice A1 0 c1)).alloc (.cells #[.int .i64 0, .int .i64 0, .slice A1 0 c1] 30))
  refine bodyPost_ret (v := .tuple #[.agg #[.int .i64 0, .int .i64 0, .slice A1 0 c1], .int .i64 9]) (by simp [results, Try.results34, go_sem, x0, x1, x2]) rfl ?_
  have hm : Mod (fun j => j = w.heap.size) w1 ((((w1.setCell ⟨w.heap.size, 0, none⟩ (.int .i64 0)).setCell ⟨w.heap.size, 1, none⟩ (.int .i64 0)).setCell ⟨w.heap.size, 2, none⟩ (.slice A1 0 c1)).alloc (.cells #[.int .i64 0, .int .i64 0, .slice A1 0 c1] 30)) :=
    ((((Mod.refl (fun j => j = w.heap.size) w1).setCell (p := ⟨w.heap.size, 0, none⟩) (.inl rfl) _).setCell (p := ⟨w.heap.size, 1, none⟩) (.inl rfl) _).setCell (p := ⟨w.heap.size, 2, none⟩) (.inl rfl) _).alloc _
  refine ⟨A1, c1, rfl, own_mod HFF.out.own hm ?_ (by simp), S, (Mod.of_below (S := S) hb1.out).trans hm (fun j hj => .inr (by omega)), (H.out.below hb1.out).kept hm (fun j hj e => by have := H.out.lt j hj; omega), fun j hj => .inl hj⟩
  intro k hk e
  have := own_ge HFF.out.own k hk
  simp at this
  omega

theorem rltake_any (S : Nat → Prop) (p : Nat) (ds : List Dg) (sd i : Int) (w : World) (h : RlAt w S p ds sd) (hmost : ds.length ≤ 4000) :
    Calls Try.prog 34 #[.pointer (some ⟨p, 0, none⟩), .int .i64 i] w (RTook S p ds sd i w) := by
  cases hin : inR ds.length i
  · exact rltake_out S p ds sd i w h (by omega) hin
  · have hh := h
    obtain ⟨h1, h2, l, sl, T, cs, h3, h4, h4a, h4b, h4c, h5, h6, h7, h8⟩ := h
    obtain ⟨As, kk, rfl⟩ := own_slice h5
    have hi' : 0 ≤ i ∧ i < (ds.length : Int) := by simpa [inR] using hin
    obtain ⟨k, rfl⟩ := Int.eq_ofNat_of_zero_le hi'.1
    have hll : l.length = ds.length := by rw [← h3]; simp
    have hk : k < l.length := by omega
    refine (rltake_ok S p k ds sd l As kk cs w hh hmost h3 hk h4 h4b h5).mono ?_
    rintro e w' ⟨A1, c1, rfl, v3, w1, W3, o1, hb1, hlt1, hb3, hown, hnew, hm⟩
    have he : seeE ds ((k : Nat) : Int) = 0 := by simp [seeE, hin]
    have hl : takL ds ((k : Nat) : Int) = ds.eraseIdx k := by simp [takL, hin]
    have hpw : p < w.heap.size := h2 p h1
    have hm3 : Mod (fun j => j = p ∨ j = w.heap.size) W3 w' := ((Mod.refl (fun j => j = p ∨ j = w.heap.size) W3).setCell (.inl (.inl rfl)) v3).trans hm (fun j hj => .inl (.inr hj))
    have hs1 := hb1.size
    have hs3 := hb3.size
    have hb13 := Bt hb1 hb3
    unfold RTook
    rw [he, hl]
    refine ⟨A1, c1, rfl, ?_, fun j => S j ∨ (w1.heap.size ≤ j ∧ j < W3.heap.size), ?_, ?_, fun j hj => hj.imp id (fun h => by omega)⟩
    · refine own_mod (own_below o1 hb3) hm3 ?_ (by omega)
      rintro j hj (rfl | rfl)
      · have := own_ge o1 _ hj; omega
      · have := own_ge o1 _ hj; omega
    · exact (Mod.of_below (S := S) hb13).trans hm3 (fun j hj => by
        rcases hj with rfl | rfl
        · exact .inl h1
        · exact .inr (Nat.le_refl _))
    · have hp3 : Blk W3 p 39 cs := h4.later hb13
      refine ⟨.inl h1, fun j hj => ?_, l.eraseIdx k, v3, T, cs.setIfInBounds 0 v3, by rw [← h3, List.eraseIdx_eq_take_drop_succ, List.eraseIdx_eq_take_drop_succ, List.map_append, List.map_take, List.map_drop], (hp3.set_ 0 v3).kept hm (by omega), by simpa using h4a, by rw [Array.getElem?_setIfInBounds_self_of_lt (by omega)], ?_, ?_, ?_, ?_, ?_⟩
      · rcases hj with hj | hj
        · exact Nat.lt_of_lt_of_le (h2 j hj) (Nat.le_trans hb13.size hm3.size)
        · exact Nat.lt_of_lt_of_le hj.2 hm3.size
      · intro a ha
        rw [Array.getElem?_setIfInBounds_ne (by omega)]
        exact h4c a ha
      · rw [List.length_eraseIdx_of_lt hk]
        refine own_mod hown hm3 ?_ (Nat.le_refl _)
        rintro j hj (rfl | rfl)
        · have := hnew _ hj; omega
        · have := hnew _ hj; omega
      · intro j hj
        refine ⟨.inr ⟨hnew j hj, own_lt hown j hj⟩, fun ht => ?_⟩
        have := h2 j (h7 j ht).1
        have := hnew j hj
        omega
      · exact fun j hj => ⟨.inl (h7 j hj).1, (h7 j hj).2⟩
      · intro x hx
        have h9 := Item.ok_kept (h8 x (List.mem_of_mem_eraseIdx hx)) (Mod.of_below (S := fun _ => False) hb13) (fun _ _ h => h)
        refine Item.ok_kept h9 hm3 ?_
        rintro j hj (rfl | rfl)
        · exact (h7 _ hj).2 rfl
        · have := h2 _ (h7 _ hj).1; omega
end Go.Proofs.Ytekedgokmmkplaa
