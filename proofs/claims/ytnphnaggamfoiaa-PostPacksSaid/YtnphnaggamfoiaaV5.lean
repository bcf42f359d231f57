/- The document's copies: of entries, of a message. -/
import Derived.Test.YtnphnaggamfoiaaV4
namespace Go.Proofs.Ytnphnaggamfoiaa
open Go.RowKit
set_option maxRecDepth 20000
set_option linter.unusedVariables false
set_option linter.unusedSimpArgs false

/-- A list of entries whose row and whose bytes are new. -/
def EnsNew (B : Nat) (w : World) (A : Option Addr) (n c : Nat) (l : List En) : Prop :=
  w.ownsRow B 46 4 (.slice A n c) n (rowE l) ∧ l.length = n ∧ ∀ x ∈ l, x.ok w (fun i => B ≤ i ∧ i < w.heap.size ∧ ¬ (Value.slice A n c).ownBlock = some i)
def CopDid (B : Nat) (l : List Ed) (w : World) (e : Ending) (w' : World) : Prop :=
  ∃ A c l', e = .returned (.slice A l.length c) ∧ EnsNew B w' A l.length c l' ∧ l'.map En.ed = l ∧ Below B w w'
set_option maxHeartbeats 4000000 in
theorem copyents_any (S : Nat → Prop) (A : Option Addr) (n c : Nat) (l : List En) (w : World) (hr : Rd w S 4 (.slice A n c) n (rowE l)) (hS : ∀ i, S i → i < w.heap.size) (hx : ∀ x ∈ l, x.ok w S) (hl : l.length = n) (hn : n * 48 ≤ 140737488351232) (hb6 : ∀ x ∈ l, x.bs.length ≤ 140737488351232) :
    Calls Try.prog 59 #[.slice A n c] w (CopDid w.heap.size (l.map En.ed) w) := by
  obtain ⟨i0, hi0, hz0, hz1, hz2⟩ := info_parts infoE
  have hcap := hr.cap
  unfold maxLen at hcap
  obtain ⟨_, hc1, hc2⟩ := hcap
  have HR := Lib.hid hr
  have HS := Lib.hid hS
  have HX := Lib.hid hx
  have HL := Lib.hid hl
  have HB6 := Lib.hid hb6
  clear hr hS hx hl hb6
  go_enter Try.func59, Try.ntmps59
  go_wp2_with fail
  go_loopw [3, 4] (fun o i wr => ∃ (k : Nat) (A' : Option Addr) (c' : Nat) (l' : List En), k ≤ n ∧ i = .int .i64 k ∧ o = .slice A' k c' ∧ EnsNew w.heap.size wr A' k c' l' ∧ l'.map En.ed = (l.map En.ed).take k ∧ Below w.heap.size w wr) (fun _ i _ => n - (intOf i).toNat)
  case atStart => exact ⟨0, none, 0, [], Nat.zero_le _, rfl, rfl, ⟨World.ownsRow_nil _ _ _ _, rfl, fun x hx => by simp at hx⟩, by simp, Below.refl _ _⟩
  case round =>
    obtain ⟨k, A', c', l', hk, rfl, rfl, he, hle, hb⟩ := hrel
    obtain ⟨wv, rfl⟩ : ∃ wv, wv = wr := ⟨_, rfl⟩
    have HE := Lib.hid he
    have HLE := Lib.hid hle
    have HB := Lib.hid hb
    clear he hle hb
    by_cases hlt : k < n
    · have hi1 : (k : Int) < (n : Int) := by omega
      have hk0 : (0 : Int) ≤ (k : Int) := by omega
      have hkl : k < l.length := by have := HL.out; omega
      obtain ⟨g, og, hA, hg, hc⟩ := rd_ents (HR.out.below HB.out HS.out) HL.out hlt
      subst hA
      have hxk := (HX.out _ (List.getElem_mem hkl)).1.below HB.out HS.out
      have hb6 := HB6.out _ (List.getElem_mem hkl)
      have htk : (l.map En.ed).take (k + 1) = (l.map En.ed).take k ++ [(l[k]).ed] := by
        rw [List.take_add_one, List.getElem?_eq_getElem (by simpa using hkl)]
        simp
      obtain ⟨x, hx⟩ : ∃ x, x = l[k] := ⟨_, rfl⟩
      rw [← hx] at hc hxk htk hb6
      obtain ⟨xte, xix, xki, xA, xc, xbs⟩ := x
      have d0 := hc 0 _ (by omega) rfl
      have d1 := hc 1 _ (by omega) rfl
      have d2 := hc 2 _ (by omega) rfl
      have d3 := hc 3 _ (by omega) rfl
      simp only [Nat.add_zero] at d0
      have HTK := Lib.hid htk
      have HXK := Lib.hid hxk
      have hgw : g < wv.heap.size := Nat.lt_of_lt_of_le (HS.out g hg) HB.out.size
      simp only at hb6
      clear hc hxk htk hx
      go_wp2_with fail
      obtain ⟨wb, hwb⟩ : ∃ u, u = wv.alloc (.cells #[.int .i64 xte, .int .i64 xix, .int .i64 xki, .slice xA xbs.length xc] 46) := ⟨_, rfl⟩
      have HT5 := Lib.hid (show Blk wb wv.heap.size 46 #[.int .i64 xte, .int .i64 xix, .int .i64 xki, .slice xA xbs.length xc] by rw [hwb]; exact Blk.new _ _ _)
      have hbb : Below wv.heap.size wv wb := by rw [hwb]; exact Ba (B0 wv) _
      have HWL := Lib.hid (show wv.heap.size < wb.heap.size by rw [hwb]; simp)
      rw [← hwb]
      clear hwb d0 d1 d2 d3
      refine (copy_bytes S _ xbs wb (HXK.out.below hbb (fun i hi => Nat.lt_of_lt_of_le (HS.out i hi) HB.out.size)) (by omega)).mono ?_
      rintro e w1 ⟨A1, c1, rfl, hf⟩
      have hbf := hf.kept
      have HF := Lib.hid hf
      have HB1 := Lib.hid (Bt hbb hbf)
      replace HT5 := Lib.hid (HT5.out.later hbf)
      obtain ⟨y0, y1, y2, y3, z0, z1, z2, z3⟩ : w1.cell? ⟨wv.heap.size, 0, none⟩ = some (.int .i64 xte) ∧ w1.cell? ⟨wv.heap.size, 1, none⟩ = some (.int .i64 xix) ∧ w1.cell? ⟨wv.heap.size, 2, none⟩ = some (.int .i64 xki) ∧ w1.cell? ⟨wv.heap.size, 3, none⟩ = some (.slice xA xbs.length xc) ∧ w1.frozen? ⟨wv.heap.size, 0, none⟩ = false ∧ w1.frozen? ⟨wv.heap.size, 1, none⟩ = false ∧ w1.frozen? ⟨wv.heap.size, 2, none⟩ = false ∧ w1.frozen? ⟨wv.heap.size, 3, none⟩ = false := ⟨HT5.out.cell 0, HT5.out.cell 1, HT5.out.cell 2, HT5.out.cell 3, HT5.out.frozen 0, HT5.out.frozen 1, HT5.out.frozen 2, HT5.out.frozen 3⟩
      have l5 := HT5.out.lt
      have hgv : g ≠ wv.heap.size := by omega
      clear hf hbf hbb
      have hmS : Mod (fun j => j = wv.heap.size) w1 (w1.setCell ⟨wv.heap.size, 3, none⟩ (.slice A1 xbs.length c1)) := (Mod.refl (fun j => j = wv.heap.size) w1).setCell (p := ⟨wv.heap.size, 3, none⟩) (.inl rfl) _
      have hws : (w1.setCell ⟨wv.heap.size, 3, none⟩ (.slice A1 xbs.length c1)).heap.size = w1.heap.size := by simp
      have HWS := Lib.hid hws
      have HOA := Lib.hid (show ((w1.setCell ⟨wv.heap.size, 3, none⟩ (.slice A1 xbs.length c1)).alloc (.cells #[.int .i64 xte, .int .i64 xix, .int .i64 xki, .slice A1 xbs.length c1] 46)).ownsRow w.heap.size 46 4 (.slice A' k c') k (rowE l') from
        (own_mod (own_below HE.out.1 HB1.out) hmS (fun j hj h => by have := own_lt HE.out.1 j hj; omega) (Nat.le_refl _)).alloc _)
      have HBX := Lib.hid (show Rd ((w1.setCell ⟨wv.heap.size, 3, none⟩ (.slice A1 xbs.length c1)).alloc (.cells #[.int .i64 xte, .int .i64 xix, .int .i64 xki, .slice A1 xbs.length c1] 46)) (fun j => j = w1.heap.size) 4 (.slice (some ⟨w1.heap.size, 0, none⟩) 1 1) 1 [.int .i64 xte, .int .i64 xix, .int .i64 xki, .slice A1 xbs.length c1] by
        have h := Rd.box (w1.setCell ⟨wv.heap.size, 3, none⟩ (.slice A1 xbs.length c1)) 46 [.int .i64 xte, .int .i64 xix, .int .i64 xki, .slice A1 xbs.length c1] 4 rfl
        rw [hws] at h
        exact h)
      have HMS := Lib.hid hmS
      clear hmS hws
      go_wp2_with (at_builtin; refine wpList_append_rd _ rfl (.tmp 23) (.tmp 25) _ rfl w.heap.size 46 i0 _ 4 48 Try.underlying22 hi0 hz0 hz1 hz2 rfl (by omega) (.slice A' k c') k (rowE l') rfl HOA.out (fun j => j = w1.heap.size) (.slice (some ⟨w1.heap.size, 0, none⟩) 1 1) 1 [.int .i64 xte, .int .i64 xix, .int .i64 xki, .slice A1 xbs.length c1] rfl HBX.out (by simp [Value.oneCell']) (by simp only [maxLen]; omega) (by omega) (by have := HB.out.size; have := HB1.out.size; have := HWS.out; simp; omega) ?_; intro v2 w5 HA)
      obtain ⟨A2, c2, rfl⟩ := own_slice HA.own
      have HA' := Lib.hid HA
      clear HA y0 y1 y2 y3 z0 z1 z2 z3
      go_wp2_with fail
      go_roundw
      case rel =>
        have hsz := HB.out.size
        have hsz1 := HB1.out.size
        have hsw := HWS.out
        have hg5 := HA'.out.grown.size
        have hal : ((w1.setCell ⟨wv.heap.size, 3, none⟩ (.slice A1 xbs.length c1)).alloc (.cells #[.int .i64 xte, .int .i64 xix, .int .i64 xki, .slice A1 xbs.length c1] 46)).heap.size = w1.heap.size + 1 := by simp
        have hmod : Mod (fun j => j = wv.heap.size ∨ (Value.slice A' k c').ownBlock = some j) w1 w5 := ((HMS.out.mono (fun i hi => .inl hi)).alloc _).grown HA'.out.grown (fun j hj => .inl (.inr hj))
        have hat : ∀ i, (Value.slice A2 (k + 1) c2).ownBlock = some i → (Value.slice A' k c').ownBlock = some i ∨ i = w1.heap.size + 1 := fun i hi => by
          rcases HA'.out.at_ with h | h
          · exact .inl (by rw [← h, hi])
          · rw [h, hal] at hi
            injection hi with hi
            exact .inr hi.symm
        have hfo := (Rd.of_own HF.out.own).mono (T := fun i => w.heap.size ≤ i ∧ i < w1.heap.size ∧ wv.heap.size < i) (fun i hi => by have h1 := own_ge HF.out.own i hi; have h2 := own_lt HF.out.own i hi; have := HWL.out; exact ⟨by omega, h2, by omega⟩)
        refine ⟨k + 1, A2, c2, l' ++ [⟨xte, xix, xki, A1, c1, xbs⟩], by omega, by go_num, rfl, ⟨?_, by simp [HE.out.2.1], ?_⟩, ?_, ?_⟩
        · rw [rowE_append]
          exact HA'.out.own
        · intro y hy
          rcases List.mem_append.1 hy with hy | hy
          · obtain ⟨h1, h2⟩ := HE.out.2.2 y hy
            refine ⟨((h1.below HB1.out (fun i hi => hi.2.1)).kept hmod (fun i hi h => h.elim (fun h => by omega) (fun h => hi.2.2 h))).mono (fun i hi => ⟨hi.1, by omega, fun h => ?_⟩), h2⟩
            rcases hat i h with h | h
            · exact hi.2.2 h
            · omega
          · simp only [List.mem_singleton] at hy
            subst hy
            refine ⟨(hfo.kept hmod (fun i hi h => h.elim (fun h => by omega) (fun h => by have := own_lt HE.out.1 i h; omega))).mono (fun i hi => ⟨hi.1, by omega, fun h => ?_⟩), by omega⟩
            rcases hat i h with h | h
            · have := own_lt HE.out.1 i h; omega
            · omega
        · rw [List.map_append, HLE.out, HTK.out]
          rfl
        · exact (HB.out.trans (HB1.out.mono hsz)).trans (hmod.below (B := w.heap.size) (by omega) (fun i hi => hi.elim (fun h => by omega) (fun h => own_ge HE.out.1 i h)))
      case measure => simp [intOf]; omega
    · have hke : k = n := by omega
      subst hke
      go_wp2_with fail
      go_ret
      have hlen : (l.map En.ed).length = k := by rw [List.length_map]; exact HL.out
      refine ⟨A', c', l', by rw [hlen]; rfl, by rw [hlen]; exact HE.out, ?_, HB.out⟩
      rw [HLE.out, List.take_of_length_le (by omega)]
theorem own_rd {w : World} {B sz n c : Nat} {e : TypeId} {A : Option Addr} {xs : List Value} (h : w.ownsRow B e sz (.slice A n c) n xs) : Rd w (fun i => B ≤ i ∧ i < w.heap.size) sz (.slice A n c) n xs :=
  (Rd.of_own h).mono (fun i hi => ⟨own_ge h i hi, own_lt h i hi⟩)
def CopyDid (P : Po) (l : List Ed) (d : List Int) (w : World) (e : Ending) (w' : World) : Prop :=
  ∃ Q l', e = .returned Q.v ∧ PoAt w' (fun i => w.heap.size ≤ i ∧ i < w'.heap.size) Q l' d ∧ Q.norm = P.norm ∧ l'.map En.ed = l ∧ Below w.heap.size w w'
set_option maxHeartbeats 4000000 in
theorem copy_any (S : Nat → Prop) (P : Po) (l : List En) (d : List Int) (w : World) (hp : PoAt w S P l d) (hn : P.en * 48 ≤ 140737488351232) : Calls Try.prog 26 #[P.v] w (CopyDid P (l.map En.ed) d w) := by
  obtain ⟨kd, fr, tq, te, ix, lt, co, ok, hi, EA, en, ec, si, st, sc, SA, sn, sk⟩ := P
  have HP0 := Lib.hid hp
  simp only at hn
  clear hp
  go_enter Try.func26, Try.ntmps26
  go_wp2_with fail
  obtain ⟨wg, hwg⟩ : ∃ u, u = ((w.alloc (.cells (Po.cs ⟨kd, fr, tq, te, ix, lt, co, ok, hi, EA, en, ec, si, st, sc, SA, sn, sk⟩) 27)).alloc (.cells (zPo 0 0 0 0).cs 27)).alloc (.cells (Po.cs ⟨kd, fr, tq, te, ix, lt, co, ok, hi, EA, en, ec, si, st, sc, SA, sn, sk⟩) 27) := ⟨_, rfl⟩
  have HG1 := Lib.hid (show Blk wg w.heap.size 27 (Po.cs ⟨kd, fr, tq, te, ix, lt, co, ok, hi, EA, en, ec, si, st, sc, SA, sn, sk⟩) by rw [hwg]; exact ((Blk.new _ _ _).alloc _).alloc _)
  have HG2 := Lib.hid (show Blk wg (w.heap.size + 1) 27 (zPo 0 0 0 0).cs by rw [hwg]; exact (Blk.new1 _ _ _ _).alloc _)
  have HG3 := Lib.hid (show Blk wg (w.heap.size + 1 + 1) 27 (Po.cs ⟨kd, fr, tq, te, ix, lt, co, ok, hi, EA, en, ec, si, st, sc, SA, sn, sk⟩) by rw [hwg]; exact Blk.new2 _ _ _ _ _)
  have hk : Below w.heap.size w wg := by rw [hwg]; exact Ba (Ba (Ba (B0 w) _) _) _
  have HB := Lib.hid hk
  have HP := Lib.hid (HP0.out.below hk)
  rw [← hwg]
  clear hwg hk
  refine (copyents_any S EA en ec l wg HP.out.rd HP.out.lt HP.out.each HP.out.len hn (fun x hx => by have := (HP.out.each x hx).2; omega)).mono ?_
  rintro e w1 ⟨A1, c1, l', rfl, he, hle, hk⟩
  have hen : (l.map En.ed).length = en := by rw [List.length_map]; exact HP.out.len
  rw [hen] at he ⊢
  have HE := Lib.hid he
  have HLE := Lib.hid hle
  have HWG := Lib.hid HG3.out.lt
  have HB0 := Lib.hid hk.size
  replace HG1 := Lib.hid (HG1.out.later hk)
  replace HG2 := Lib.hid (HG2.out.later hk)
  replace HG3 := Lib.hid (HG3.out.later hk)
  replace HP := Lib.hid (HP.out.below hk)
  replace HB := Lib.hid (Bt HB.out hk)
  clear he hle hk hen
  obtain ⟨x0, x1, x2, x3, x4, x5, x6, x7, x8, x9, x10, x11, x12, x13⟩ := blk14 HG1.out
  have f9 := HG3.out.frozen 9
  have lg3 := HG3.out.lt
  obtain ⟨z9⟩ : Nonempty (w1.cell? ⟨w.heap.size + 1 + 1, 9, none⟩ = some (.slice EA en ec)) := ⟨HG3.out.cell 9⟩
  go_wp2_with fail
  obtain ⟨w2, hw2⟩ : ∃ u, u = w1.setCell ⟨w.heap.size + 1 + 1, 9, none⟩ (.slice A1 en c1) := ⟨_, rfl⟩
  have hm : Mod (fun j => j = w.heap.size + 1 + 1) w1 w2 := by rw [hw2]; exact (Mod.refl (fun j => j = w.heap.size + 1 + 1) w1).setCell (p := ⟨w.heap.size + 1 + 1, 9, none⟩) (.inl rfl) _
  replace HG3 := Lib.hid (show Blk w2 (w.heap.size + 1 + 1) 27 (Po.cs ⟨kd, fr, tq, te, ix, lt, co, ok, hi, A1, en, c1, si, st, sc, SA, sn, sk⟩) by rw [hw2]; exact HG3.out.set_ 9 _)
  rw [← hw2]
  clear hw2 x0 x1 x2 x3 x4 x5 x6 x7 x8 x9 x10 x11 x12 x13 f9 lg3 z9
  have hS3 : ∀ i, S i → ¬ i = w.heap.size + 1 + 1 := fun i hi h => by have := HP0.out.lt i hi; omega
  replace HG1 := Lib.hid (HG1.out.kept hm (by omega))
  replace HG2 := Lib.hid (HG2.out.kept hm (by omega))
  replace HP := Lib.hid (HP.out.kept hm hS3)
  have HS2 := Lib.hid hm.size
  have hge : ∀ i, (Value.slice A1 en c1).ownBlock = some i → w.heap.size + 1 + 1 < i := fun i hi => by have := own_ge HE.out.1 i hi; have := HWG.out; omega
  have HER := Lib.hid ((own_rd HE.out.1).kept hm (fun i hi h => by have := HWG.out; omega))
  have HEX := Lib.hid (fun x hx => And.intro ((HE.out.2.2 x hx).1.kept hm (fun i hi h => by have := HWG.out; omega)) (HE.out.2.2 x hx).2)
  replace HB := Lib.hid (Bm HB.out hm (fun i hi => by omega))
  clear hm
  have hdl := HP.out.dlen
  simp only at hdl
  subst hdl
  refine (copy_bytes S _ d w2 HP.out.data (by have := HP.out.dmost; simp only at this; omega)).mono ?_
  rintro e w3 ⟨A2, c2, rfl, hf⟩
  have hk := hf.kept
  have HF := Lib.hid hf
  replace HG1 := Lib.hid (HG1.out.later hk)
  replace HG2 := Lib.hid (HG2.out.later hk)
  replace HG3 := Lib.hid (HG3.out.later hk)
  have HW1 := Lib.hid (Nat.le_trans HS2.out hk.size)
  replace HER := Lib.hid (HER.out.below hk (fun i hi => Nat.lt_of_lt_of_le hi.2 HS2.out))
  replace HEX := Lib.hid (fun x hx => And.intro ((HEX.out x hx).1.below hk (fun i hi => Nat.lt_of_lt_of_le hi.2.1 HS2.out)) (HEX.out x hx).2)
  replace HB := Lib.hid (Bt HB.out hk)
  clear hf hk
  have l1 := HG1.out.lt
  have l2 := HG2.out.lt
  have l3 := HG3.out.lt
  have HFL := Lib.hid (show ∀ i, (Value.slice A2 d.length c2).ownBlock = some i → w.heap.size + 1 + 1 < i ∧ w1.heap.size ≤ i from fun i hi => by have := own_ge HF.out.own i hi; have := HWG.out; have := HS2.out; have h5 := HB0.out; omega)
  obtain ⟨x0, x1, x2, x3, x4, x5, x6, x7, x8, x9, x10, x11, x12, x13⟩ := blk14 HG3.out
  have f13 := HG3.out.frozen 13
  obtain ⟨z0, z1, z2, z3, z4, z5, z6, z7, z8, z9, z10, z11, z12, z13⟩ := blk14 HG2.out
  have fz := fun k => HG2.out.frozen k
  have hne : w.heap.size + 1 ≠ w.heap.size + 1 + 1 := by omega
  go_wp2_with fail
  obtain ⟨w4, hw4⟩ : ∃ u, u = w3.setCell ⟨w.heap.size + 1 + 1, 13, none⟩ (.slice A2 d.length c2) := ⟨_, rfl⟩
  have hm4 : Mod (fun j => j = w.heap.size + 1 + 1) w3 w4 := by rw [hw4]; exact (Mod.refl (fun j => j = w.heap.size + 1 + 1) w3).setCell (p := ⟨w.heap.size + 1 + 1, 13, none⟩) (.inl rfl) _
  rw [← hw4]
  clear hw4 x0 x1 x2 x3 x4 x5 x6 x7 x8 x9 x10 x11 x12 x13 z0 z1 z2 z3 z4 z5 z6 z7 z8 z9 z10 z11 z12 z13 f13 fz
  obtain ⟨wz, hwz, hzb, hzm⟩ := blk_set14 (HG2.out.kept hm4 (by omega)) ⟨kd, fr, tq, te, ix, lt, co, ok, hi, A1, en, c1, si, st, sc, A2, d.length, c2⟩
  rw [← hwz]
  clear hwz
  obtain ⟨x0, x1, x2, x3, x4, x5, x6, x7, x8, x9, x10, x11, x12, x13⟩ := blk14 hzb
  refine bodyPost_ret (v := Po.v ⟨kd, fr, tq, te, ix, lt, co, ok, hi, A1, en, c1, si, st, sc, A2, d.length, c2⟩) (by simp [results, Try.results26, go_sem, x0, x1, x2, x3, x4, x5, x6, x7, x8, x9, x10, x11, x12, x13]) rfl ?_
  have s4 := hm4.size
  have sz := hzm.size
  have hb0 := HB0.out
  have hwg := HWG.out
  have hw1 := HW1.out
  have hmm : Mod (fun j => j = w.heap.size + 1 ∨ j = w.heap.size + 1 + 1) w3 wz := (hm4.mono (fun i hi => .inr hi)).trans hzm (fun i hi => .inl (.inl hi))
  have hlw : w.heap.size + 1 + 1 < w1.heap.size := by omega
  have hgw : ∀ i, (Value.slice A2 d.length c2).ownBlock = some i → w.heap.size + 1 + 1 < i := fun i hi => (HFL.out i hi).1
  refine ⟨⟨kd, fr, tq, te, ix, lt, co, ok, hi, A1, en, c1, si, st, sc, A2, d.length, c2⟩, l', rfl, ⟨fun i hi => hi.2, HE.out.2.1, HP.out.most, ?_, ?_, rfl, by have := HP.out.dmost; exact this, ?_⟩, rfl, HLE.out, ?_⟩
  · exact (HER.out.kept hmm (fun i hi h => by omega)).mono (fun i hi => ⟨by omega, by omega⟩)
  · intro x hx
    exact ⟨((HEX.out x hx).1.kept hmm (fun i hi h => by omega)).mono (fun i hi => ⟨by omega, by omega⟩), (HEX.out x hx).2⟩
  · exact ((Rd.of_own HF.out.own).kept hmm (fun i hi h => by have := hgw i hi; omega)).mono (fun i hi => ⟨by have := hgw i hi; omega, by have := own_lt HF.out.own i hi; omega⟩)
  · exact Bm HB.out hmm (fun i hi => by omega)
theorem post_reach {H : Type} {enc : TypeId × Value → H} {W : World} {sp : Nat → Bool} {held : Bool} {p : Po} {d : DataW H} {pl : List MemPlace} (ht : DataW.Trod enc Try.prog W 0 sp held 27 (Po.v p) d pl)
    (hz : ∀ n ∈ d.weights Try.prog 27, n ≤ reachBytes) : p.en * 48 ≤ 140737488351232 := by
  obtain ⟨fuel, hf⟩ := ht
  obtain ⟨xs, m, _, hdp, hl, hxl, hfs⟩ := DataW.trod_struct Try.underlying27 hf
  simp only [Prod.mk.injEq] at hdp
  obtain ⟨rfl, _⟩ := hdp
  have g9 := hfs 9 _ rfl
  match xs, hxl with
  | [y0, y1, y2, y3, y4, y5, y6, y7, y8, y9, y10], _ =>
    simp [cint_cells, cbool_cells, crow_cells, cents_cells, snap_cells, Value.cells, Po.v, Po.cs] at g9
    rcases Go.Deep.open_slice Try.underlying22 g9 with ⟨hcs, hx⟩ | ⟨a, len, cap, m, n, D, Pl, hcs, _, hl, hm, hmm, hx, hel⟩
    · simp at hcs
      omega
    · have hw := hz ((len + (m - len)) * 48) (by
        simp only [DataW.weights, Try.underlying27]
        simp [DataW.weightsEach, hx, DataW.weights, Try.underlying22, ent_bytes])
      simp at hcs
      unfold reachBytes at hw
      omega
end Go.Proofs.Ytnphnaggamfoiaa
