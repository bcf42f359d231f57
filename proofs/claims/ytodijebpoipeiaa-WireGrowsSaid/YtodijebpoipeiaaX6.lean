/- The statement WireGrows: its loop. -/
import Derived.Test.YtodijebpoipeiaaX5
import Derived.Deep.Cut
import Derived.Deep.CutRange
import Derived.Deep.CutBlock
import Derived.Deep.RegionHeld3
namespace Go.Proofs.Ytodijebpoipeiaa
open Go.RowKit
set_option linter.unusedVariables false
set_option linter.unusedSimpArgs false

/-- What the loop of WireGrows keeps: the writer, what was written, both alike. -/
def GrAt (W wr : World) (p : Nat) (A : Option Addr) (c : Nat) (l : List Int) : Prop :=
  Byt l ∧ Below W.heap.size W wr ∧ ∃ S, WrAt wr S p l ∧ (∀ i, S i → W.heap.size ≤ i) ∧ Rd wr (fun i => i < wr.heap.size ∧ ¬ S i) 1 (.slice A l.length c) l.length (bts l)

/-- Behind a switch's call: the writer, what was written before, and the call's own block. -/
def GrMid (W w2 : World) (p b : Nat) (cs' : Array Value) (A : Option Addr) (c : Nat) (l l' : List Int) : Prop :=
  Below W.heap.size W w2 ∧ ∃ S, WrAt w2 S p l' ∧ (∀ i, S i → W.heap.size ≤ i) ∧ Rd w2 (fun i => i < w2.heap.size ∧ ¬ S i) 1 (.slice A l.length c) l.length (bts l) ∧ Blk w2 b 29 cs' ∧ ¬ S b

theorem gr_did {W wr w2 : World} {S : Nat → Prop} {p b : Nat} {cs' : Array Value} {A : Option Addr} {c : Nat} {l l' : List Int} {v : Value} {e : Ending} (hbW : Below W.heap.size W wr) (hS0 : ∀ i, S i → W.heap.size ≤ i) (hS : ∀ i, S i → i < wr.heap.size)
    (hrd : Rd wr (fun i => i < wr.heap.size ∧ ¬ S i) 1 (.slice A l.length c) l.length (bts l)) (hblk : Blk wr b 29 cs') (hbS : ¬ S b) (hd : WDid S p l' v wr e w2) : GrMid W w2 p b cs' A c l l' := by
  obtain ⟨_, S2, hm, hw, hs2⟩ := hd
  refine ⟨Bm hbW hm hS0, S2, hw, fun i hi => ?_, (hrd.kept hm (fun i hi => hi.2)).mono (fun i hi => ⟨Nat.lt_of_lt_of_le hi.1 hm.size, fun h => ?_⟩), hblk.kept hm hbS, fun h => ?_⟩
  · rcases hs2 i hi with h | h
    · exact hS0 i h
    · exact Nat.le_trans hbW.size h
  · rcases hs2 i h with h' | h'
    · exact hi.2 h'
    · omega
  · rcases hs2 b h with h' | h'
    · exact hbS h'
    · have := hblk.lt; omega

theorem rd_nil0 (w : World) (S : Nat → Prop) (A : Option Addr) (c : Nat) (hc : c ≤ 9223372036854775807) : Rd w S 1 (.slice A ([] : List Int).length c) ([] : List Int).length (bts []) :=
  ⟨by simp [bts], A, c, rfl, by simp, by unfold maxLen; omega, fun h => absurd h (by simp)⟩

theorem gr_round {W wx w5 w7 : World} {S : Nat → Prop} {p c5 : Nat} {A5 : Option Addr} {l' : List Int} (hb : Byt l') (hW : Below W.heap.size W wx) (hs : WrAt wx S p l') (h0 : ∀ i, S i → W.heap.size ≤ i) (hf : Fresh wx w5 A5 c5 l') (h57 : Below w5.heap.size w5 w7) : GrAt W w7 p A5 c5 l' :=
  ⟨hb, Bt (Bt hW hf.kept) h57, S, (hs.below hf.kept).below h57, h0, ((Rd.of_own hf.own).below h57 (fun i hi => own_lt hf.own i hi)).mono (fun i hi => ⟨Nat.lt_of_lt_of_le (own_lt hf.own i hi) h57.size, fun h => by have := hs.1 i h; have := own_ge hf.own i hi; omega⟩)⟩

theorem bring3 (x : Int) : bringF x 3 = 0 ∨ bringF x 3 = 1 ∨ bringF x 3 = 2 := by
  have := bringF_lt x 3 (by omega)
  omega

set_option maxHeartbeats 4000000 in
set_option maxRecDepth 20000 in
theorem grows_walk (W : World) (A : Option Addr) (c : Nat) (cl : List Cl) (hr : ClsRd W A c cl) :
    Calls Try.prog 5 #[.slice A cl.length c] W fun e w' => e = .returned (.bool true) ∧ Below W.heap.size W w' := by
  have hcl : cl.length ≤ 9223372036854775807 := Nat.le_trans hr.cap hr.most
  have hcl1 : cl.length ≤ c := hr.cap
  have HC := Lib.hid hr
  clear hr
  go_enter Try.func5, Try.ntmps5
  go_wp2_with fail
  refine (works_any W).mono ?_
  rintro e w1 ⟨rfl, hb1⟩
  go_wp2_with fail
  refine (write_any _).mono ?_
  rintro e w2 ⟨rfl, hw2, hb2⟩
  have H0 := Lib.hid (show GrAt W w2 (w1.heap.size + 1) none 0 [] from ⟨Byt.nil, Bt hb1 hb2, _, hw2, fun i hi => by have := hb1.size; omega, Rd.nil _ _ _⟩)
  obtain ⟨p, hp⟩ : ∃ p, p = w1.heap.size + 1 := ⟨_, rfl⟩
  rw [← hp] at H0 ⊢
  clear hp hw2 hb2 hb1
  go_wp2_with fail
  go_loopw [4, 5] (fun was i wr => ∃ (k : Nat) (l : List Int) (A' : Option Addr) (c' : Nat), k ≤ cl.length ∧ k ≤ 60 ∧ l.length ≤ 402 * k ∧ was = .slice A' l.length c' ∧ i = .int .i64 k ∧ GrAt W wr p A' c' l) (fun _ i _ => 60 - (intOf i).toNat)
  case atStart => exact ⟨0, [], none, 0, Nat.zero_le _, by omega, by simp, rfl, rfl, H0.out⟩
  case round =>
    obtain ⟨k, l, A', c', hk, hk6, hll, rfl, rfl, hg⟩ := hrel
    by_cases hlt : k < cl.length
    · by_cases h60 : k < 60
      · have hlt2 : (k : Int) < (cl.length : Int) := by omega
        have h602 : (k : Int) < 60 := by omega
        obtain ⟨g, o, rfl, hgW, hca⟩ := HC.out.at_ k hlt
        obtain ⟨x, hx⟩ : ∃ x, x = cl[k] := ⟨_, rfl⟩
        rw [← hx] at hca
        clear hx
        obtain ⟨⟨x1, x2, x3, hxb, hxl, hxr⟩, c0, c1, c2, c3⟩ := hca
        have hbW := hg.2.1
        have b0 := (hbW.cell (p := ⟨g, o + k * 4, none⟩) hgW).trans c0
        have b1 := (hbW.cell (p := ⟨g, o + k * 4 + 1, none⟩) hgW).trans c1
        have b2 := (hbW.cell (p := ⟨g, o + k * 4 + 2, none⟩) hgW).trans c2
        have b3 := (hbW.cell (p := ⟨g, o + k * 4 + 3, none⟩) hgW).trans c3
        have HG := Lib.hid hg
        have HX := Lib.hid (And.intro x1 (And.intro x2 (And.intro x3 (And.intro hxb (And.intro hxl hxr)))))
        have hcapx := hxr.cap
        unfold maxLen at hcapx
        obtain ⟨_, hcx1, hcx2⟩ := hcapx
        clear c0 c1 c2 c3 x1 x2 x3 hxb hxr hg hbW
        go_upto_region 9 with fail
        go_cut [7] from 14 to 95 (fun v wx => v = .slice x.A (x.bs.take 400).length x.c ∧ wx = wr.alloc (.cells #[.int .i64 x.what, .int .i64 x.n, .int .i64 x.size, .slice x.A x.bs.length x.c] 29))
        case first =>
          go_wp2_with fail
          all_goals
            go_meet
            exact ⟨congrArg (fun n => Value.slice x.A n x.c) (by simp; omega), rfl⟩
        case rest =>
          obtain ⟨rfl, rfl⟩ := hcut
          have hys : (x.bs.take 400).length ≤ 400 := by simp; omega
          have hyb : Byt (x.bs.take 400) := HX.out.2.2.2.1.take 400
          have hyr : Rd W (fun i => i < W.heap.size) 1 (.slice x.A (x.bs.take 400).length x.c) (x.bs.take 400).length (bts (x.bs.take 400)) := rd_head _ (x.bs.drop 400) (by rw [List.take_append_drop]; exact HX.out.2.2.2.2.2)
          generalize x.bs.take 400 = ys at hys hyb hyr ⊢
          obtain ⟨hgb, hgw, S, hgS, hgS0, hgr⟩ := HG.out
          have hblk := Blk.new wr 29 #[.int .i64 x.what, .int .i64 x.n, .int .i64 x.size, .slice x.A x.bs.length x.c]
          have hgS1 := (hgS.below (Ba (B0 wr) (.cells #[.int .i64 x.what, .int .i64 x.n, .int .i64 x.size, .slice x.A x.bs.length x.c] 29)))
          have hbw1 := Ba hgw (.cells #[.int .i64 x.what, .int .i64 x.n, .int .i64 x.size, .slice x.A x.bs.length x.c] 29)
          have hyr1 := hyr.below hbw1 (fun _ h => h)
          have hnb : ¬ S wr.heap.size := fun h => by have := hgS.1 _ h; omega
          have DID := Lib.hid (fun (l' : List Int) (v : Value) (e : Ending) (w2 : World) (hd : WDid S p l' v (wr.alloc (.cells #[.int .i64 x.what, .int .i64 x.n, .int .i64 x.size, .slice x.A x.bs.length x.c] 29)) e w2) => gr_did (b := wr.heap.size) hbw1 hgS0 (hgS1.1) ((hgr.below (Ba (B0 wr) _) (fun i hi => hi.1)).mono (fun i hi => ⟨by simp; omega, hi.2⟩)) hblk hnb hd)
          have HS1 := Lib.hid hgS1
          have HS0 := Lib.hid hgS0
          have HYR := Lib.hid (And.intro hyr1 hyb)
          have HGB := Lib.hid hgb
          have HBW := Lib.hid hbw1
          obtain ⟨q, hq⟩ : ∃ q, q = bringF x.what 3 := ⟨_, rfl⟩
          have hq3 := bring3 x.what
          rw [← hq] at hq3
          have HQ := Lib.hid hq
          have hxn := HX.out.2.1
          have hxs := HX.out.2.2.1
          clear hgb hgw hgS hgS0 hgr hblk hgS1 hbw1 hyr hyr1 hyb hnb HG hq b0 b1 b2 b3
          go_upto_block 2 with (go_at_call 14; refine (bring_any x.what 3 _ (by omega)).mono ?_; rintro e w' ⟨rfl, rfl⟩; rw [← HQ.out])
          go_cut [8, 9] from 14 to 95 (fun mo ev wx => ∃ (E M : Int) (d : List Int), mo = .int .i64 M ∧ ev = .int .i64 E ∧ (E = 0 → ((d.length : Int) = M ∧ Byt d ∧ d.length ≤ 402 ∧ eatE d q M = 0 ∧ (eatL d q M).length = 3)) ∧
            GrMid W wx p wr.heap.size #[.int .i64 x.what, .int .i64 x.n, .int .i64 x.size, .slice x.A x.bs.length x.c] A' c' l (if E = 0 then l ++ d else l))
          case first =>
            have hoe : octE ys = 0 := by unfold octE; rw [if_neg (by omega)]
            have hol : octL l ys = l ++ (be 2 ys.length ++ ys) := by unfold octL; rw [if_neg (by omega)]
            have HOC := Lib.hid (And.intro hoe hol)
            clear hoe hol
            rcases hq3 with rfl | rfl | rfl
            · go_wp2_with fail
              refine (put_any S p l x.n x.size _ HS1.out hxn.2 (by omega)).mono ?_
              rintro e w4 hd
              have hd' := hd
              obtain ⟨rfl, _⟩ := hd'
              have hgm := DID.out _ _ _ _ hd
              clear hd
              have HGM := Lib.hid hgm
              clear hgm
              go_wp2_with fail
              go_meet
              refine ⟨putE x.n x.size, x.size, be x.size.toNat x.n, rfl, rfl, fun h => ?_, HGM.out⟩
              have hp := putE_zero h
              obtain ⟨h1, h2⟩ := eat_put x.n x.size h hxn.2
              exact ⟨by rw [be_length]; omega, be_byt _ _, by rw [be_length]; omega, h1, h2⟩
            · go_wp2_with fail
              refine (wbytes_any S _ p l ys x.A x.c _ HS1.out HYR.out.1 (fun i hi => Nat.lt_of_lt_of_le hi HBW.out.size) (by omega)).mono ?_
              rintro e w4 hd
              have hd' := hd
              obtain ⟨rfl, _⟩ := hd'
              have hgm := DID.out _ _ _ _ hd
              clear hd
              have HGM := Lib.hid hgm
              clear hgm
              go_wp2_with fail
              go_meet
              obtain ⟨h1, h2⟩ := eat_bytes ys
              exact ⟨0, ys.length, ys, rfl, rfl, fun h => ⟨rfl, HYR.out.2, by omega, h1, h2⟩, HGM.out⟩
            · go_wp2_with fail
              refine (octets_any S _ p l ys x.A x.c _ HS1.out HYR.out.1 (fun i hi => ⟨Nat.lt_of_lt_of_le hi HBW.out.size, fun hs => ?_⟩) (by omega)).mono ?_
              · have := HS0.out i hs; omega
              rw [HOC.out.1, HOC.out.2]
              rintro e w4 hd
              have hd' := hd
              obtain ⟨rfl, _⟩ := hd'
              have hgm := DID.out _ _ _ _ hd
              clear hd
              have HGM := Lib.hid hgm
              clear hgm
              go_wp2_with fail
              go_meet
              obtain ⟨h1, h2⟩ := eat_octets ys (by omega)
              exact ⟨0, ys.length + 2, be 2 ys.length ++ ys, rfl, rfl, fun h => ⟨by simp [be_length]; omega, (be_byt _ _).append HYR.out.2, by simp [be_length]; omega, h1, h2⟩, HGM.out⟩
          case rest =>
            obtain ⟨E, M, d, rfl, rfl, hE, hgm⟩ := hcut
            have HQ3 := Lib.hid hq3
            clear hq3 DID HS1 HS0 HYR HBW hxn hxs hys
            obtain ⟨hgb, S', hgS, hgS0, hgr, hblk, hnb⟩ := hgm
            have HGr := Lib.hid hgr
            by_cases he : E = 0
            · subst he
              obtain ⟨rfl, hdb, hdl, hd1, hd2⟩ := hE rfl
              simp only [if_true] at hgS
              have HD := Lib.hid (And.intro hdb (And.intro hd1 hd2))
              have HGB' := Lib.hid (And.intro hgS0 hnb)
              have HBW := Lib.hid hgb
              have HBK := Lib.hid hblk
              have HGS := Lib.hid hgS
              clear hE hdb hd1 hd2 hgr hgS0 hnb hgb hblk
              go_wp2_with fail
              refine (out_any S' p (l ++ d) _ hgS (by simp; omega)).mono ?_
              rintro e w5 ⟨A5, c5, rfl, HF5⟩
              have hr5 := HF5.rd
              have hcap5 := hr5.cap
              unfold maxLen at hcap5
              obtain ⟨_, h51, h52⟩ := hcap5
              simp only [List.length_append] at h51
              have HGr5 := Lib.hid (HGr.out.below HF5.kept (fun i hi => hi.1))
              have HS5 := Lib.hid (hgS.below HF5.kept)
              have HB5 := Lib.hid (HBK.out.later HF5.kept)
              have HW5 := Lib.hid (Bt HBW.out HF5.kept)
              have HR5 := Lib.hid hr5
              have HF5' := Lib.hid HF5
              have HSn := Lib.hid (hgS.1)
              have lw5 := Lib.hid HF5.kept.size
              have hsum : ((l.length : Int) + (d.length : Int) != (l.length : Int) + (d.length : Int)) = false := by simp
              clear hgS HF5 hr5 HGr HBK
              go_wp2_with fail
              refine (eq_bytes _ _ _ _ l l _ (rd_head l d HR5.out) HGr5.out).mono ?_
              rintro e w6 ⟨rfl, n6, hw6⟩
              rw [eqB_self]
              have hb6 : Below w5.heap.size w5 w6 := by rw [hw6]; exact BdN (B0 _) n6
              clear hw6
              have z0 : w6.cell? ⟨wr.heap.size, 0, none⟩ = some (.int .i64 x.what) := (HB5.out.later hb6).cell 0
              have HB6 := Lib.hid hb6
              have hbb : wr.heap.size < w6.heap.size := Nat.lt_of_lt_of_le HB5.out.lt hb6.size
              clear hb6
              rcases A5 with _ | ⟨g5, o5, j5⟩
              · obtain ⟨rfl, rfl⟩ : l = [] ∧ d = [] := by
                  have h0 : (l ++ d).length = 0 := by
                    rcases Nat.eq_zero_or_pos (l ++ d).length with h0 | h0
                    · exact h0
                    · obtain ⟨g, o, he, _⟩ := HR5.out.some_ h0; cases he
                  exact List.append_eq_nil_iff.1 (List.eq_nil_of_length_eq_zero h0)
                go_wp2_with fail
                go_region_held3 (fun w' => w'.cell? ⟨wr.heap.size, 0, none⟩ = some (.int .i64 x.what)) (first | go_keep | (exact cell_later hbs (by assumption)))
                  (first
                    | (go_at_call 14; refine (bring_any x.what 3 _ (by omega)).mono ?_; rintro e w' ⟨rfl, rfl⟩; rw [← HQ.out])
                    | (go_at_call 38; refine (eats_any (fun i => i < w5.heap.size) _ _ [] q 0 _ (rd_nil0 _ _ _ _ (by omega)) (fun i hi => Nat.lt_of_lt_of_le hi (by simpa using HB6.out.size)) HD.out.1 (by simp) HQ3.out (by omega) (by omega) (by simpa using HD.out.2.1) (by simpa using HD.out.2.2)).mono ?_; rintro e w7 ⟨rfl, hbs⟩; have hb7 : Below w6.heap.size w6 w7 := Bt (by repeat (first | exact B0 _ | apply Bd | apply BdN | apply Ba)) hbs; replace hb7 := Lib.hid hb7))
                go_wp2_with fail
                go_roundw
                case rel => exact ⟨k + 1, [] ++ [], none, c5, by omega, by omega, by first | (simp; done) | (simp; omega), by first | (simp; done) | (simp; omega), by go_num, gr_round (HGB.out.append HD.out.1) HBW.out HGS.out HGB'.out.1 HF5'.out (Bt HB6.out hb7.out)⟩
                case measure => simp [intOf]; omega
              · have HT := Lib.hid (fun (a' : Option Addr) (ha : a' = some ((⟨g5, o5, j5⟩ : Addr).add l.length) ∨ c5 = l.length) => rd_tail l d (by have := HR5.out; simpa only [List.length_append] using this) a' ha)
                by_cases hc5 : c5 = l.length
                · have hd0 : d = [] := List.eq_nil_of_length_eq_zero (by omega)
                  subst hd0
                  have hi1 : (0 : Int) ≤ (l.length : Int) := by omega
                  go_wp2_with fail
                  go_region_held3 (fun w' => w'.cell? ⟨wr.heap.size, 0, none⟩ = some (.int .i64 x.what)) (first | go_keep | (exact cell_later hbs (by assumption)))
                    (first
                      | (go_at_call 14; refine (bring_any x.what 3 _ (by omega)).mono ?_; rintro e w' ⟨rfl, rfl⟩; rw [← HQ.out])
                      | (go_at_call 38; refine (eats_any (fun i => i < w5.heap.size) _ _ [] q 0 _ (rd_nil0 _ _ _ _ (by omega)) (fun i hi => Nat.lt_of_lt_of_le hi (by simpa using HB6.out.size)) HD.out.1 (by simp) HQ3.out (by omega) (by omega) (by simpa using HD.out.2.1) (by simpa using HD.out.2.2)).mono ?_; rintro e w7 ⟨rfl, hbs⟩; have hb7 : Below w6.heap.size w6 w7 := Bt (by repeat (first | exact B0 _ | apply Bd | apply BdN | apply Ba)) hbs; replace hb7 := Lib.hid hb7))
                  go_wp2_with fail
                  go_roundw
                  case rel => exact ⟨k + 1, l ++ [], some ⟨g5, o5, j5⟩, c5, by omega, by omega, by first | (simp; done) | (simp; omega), by first | (simp; done) | (simp; omega), by go_num, gr_round (HGB.out.append HD.out.1) HBW.out HGS.out HGB'.out.1 HF5'.out (Bt HB6.out hb7.out)⟩
                  case measure => simp [intOf]; omega
                · have HT2 := Lib.hid (HT.out _ (.inl rfl))
                  have hi1 : (0 : Int) ≤ (l.length : Int) := by omega
                  have hi2 : (l.length : Int) ≤ (l.length : Int) + (d.length : Int) := by omega
                  go_wp2_with fail
                  go_region_held3 (fun w' => w'.cell? ⟨wr.heap.size, 0, none⟩ = some (.int .i64 x.what)) (first | go_keep | (exact cell_later hbs (by assumption)))
                    (first
                      | (go_at_call 14; refine (bring_any x.what 3 _ (by omega)).mono ?_; rintro e w' ⟨rfl, rfl⟩; rw [← HQ.out])
                      | (go_at_call 38; refine (eats_any (fun i => i < w5.heap.size) _ _ d q d.length _ (HT2.out.below (by repeat (first | exact HB6.out | apply Bd | apply BdN | apply Ba)) (fun _ h => h)) (fun i hi => Nat.lt_of_lt_of_le hi (by simpa using HB6.out.size)) HD.out.1 (by omega) HQ3.out (by omega) (by omega) HD.out.2.1 HD.out.2.2).mono ?_; rintro e w7 ⟨rfl, hbs⟩; have hb7 : Below w6.heap.size w6 w7 := Bt (by repeat (first | exact B0 _ | apply Bd | apply BdN | apply Ba)) hbs; replace hb7 := Lib.hid hb7))
                  go_wp2_with fail
                  go_roundw
                  case rel => exact ⟨k + 1, l ++ d, some ⟨g5, o5, j5⟩, c5, by omega, by omega, by first | (simp; done) | (simp; omega), by first | (simp; done) | (simp; omega), by go_num, gr_round (HGB.out.append HD.out.1) HBW.out HGS.out HGB'.out.1 HF5'.out (Bt HB6.out hb7.out)⟩
                  case measure => simp [intOf]; omega
            · simp only [he, if_false] at hgS
              have HGB' := Lib.hid (And.intro hgS0 hnb)
              have HBW := Lib.hid hgb
              have HGS := Lib.hid hgS
              have hEn : (E != 0) = true := by simp [he]
              have hEq : (E == 0) = false := by simp [he]
              clear hE hgr hgS0 hnb hgb hblk he
              go_wp2_with fail
              refine (out_any S' p l _ hgS (by omega)).mono ?_
              rintro e w5 ⟨A5, c5, rfl, HF5⟩
              have hr5 := HF5.rd
              obtain ⟨_, h51, h52⟩ := hr5.cap
              unfold maxLen at h52
              have HGr5 := Lib.hid (HGr.out.below HF5.kept (fun i hi => hi.1))
              have HR5 := Lib.hid hr5
              have HF5' := Lib.hid HF5
              have hsum : ((l.length : Int) != (l.length : Int)) = false := by simp
              clear hgS HF5 hr5 HGr
              go_wp2_with fail
              refine (eq_bytes _ _ _ _ l l _ HR5.out HGr5.out).mono ?_
              rintro e w6 ⟨rfl, n6, hw6⟩
              rw [eqB_self]
              have hb6 : Below w5.heap.size w5 w6 := by rw [hw6]; exact BdN (B0 _) n6
              have HB6 := Lib.hid hb6
              clear hw6 hb6
              go_wp2_with fail
              go_quiet (fail)
              go_wp2_with fail
              go_roundw
              case rel => exact ⟨k + 1, l, A5, c5, by omega, by omega, by omega, rfl, by go_num, gr_round HGB.out HBW.out HGS.out HGB'.out.1 HF5'.out (Bt HB6.out (by repeat (first | exact B0 _ | apply BdN)))⟩
              case measure => simp [intOf]; omega
      · have h602 : ¬ (k : Int) < 60 := by omega
        have hlt2 : (k : Int) < (cl.length : Int) := by omega
        have HG := Lib.hid hg
        clear hg
        go_wp2_with fail
        go_ret
        exact ⟨rfl, HG.out.2.1⟩
    · have hlt2 : ¬ (k : Int) < (cl.length : Int) := by omega
      have HG := Lib.hid hg
      clear hg
      go_wp2_with fail
      go_ret
      exact ⟨rfl, HG.out.2.1⟩

theorem wireGrows_walk {H : Type} {enc : TypeId × Value → H} (W : World) {base : Nat} {sp : Nat → Bool} {held : Bool} {v : Value} {d : DataW H} {p : List MemPlace} (hv : Value.okWide Try.prog W .any base 22 v) (ht : DataW.Trod enc Try.prog W 0 sp held 22 v d p) (hz : ∀ n ∈ d.weights Try.prog 22, n ≤ reachBytes) :
    Calls Try.prog 5 #[v] W fun e w' => e = .returned (.bool true) ∧ Below W.heap.size W w' := by
  obtain ⟨A, c, l, rfl, hr⟩ := open_calls hv ht hz
  exact grows_walk W A c l hr
end Go.Proofs.Ytodijebpoipeiaa
