/- A message that is cut is told, and one with a byte behind it, too. -/
import Derived.Test.YtnphnaggamfoiaaS4
namespace Go.Proofs.Ytnphnaggamfoiaa
open Go.RowKit
set_option maxRecDepth 20000
set_option linter.unusedVariables false
set_option linter.unusedSimpArgs false

theorem rd_take {w : World} {S : Nat → Prop} {A : Option Addr} {c : Nat} {ys : List Int} (h : Rd w S 1 (.slice A ys.length c) ys.length (bts ys)) {k : Nat} (hk : k ≤ ys.length) : Rd w S 1 (.slice A (ys.take k).length c) (ys.take k).length (bts (ys.take k)) := by
  obtain ⟨hl, A', c', he, h1, h2, h3⟩ := h
  injection he with e1 e2 e3
  subst e1 e3
  have hlt : (ys.take k).length = k := by simp; omega
  refine ⟨by simp [bts], A, c, rfl, by omega, h2, fun h0 => ?_⟩
  obtain ⟨g, o, rfl, hs, hc⟩ := h3 (by omega)
  refine ⟨g, o, rfl, hs, fun j u hu => hc j u ?_⟩
  have hj : j < (bts (ys.take k)).length := by
    rcases Nat.lt_or_ge j (bts (ys.take k)).length with h | h
    · exact h
    · rw [List.getElem?_eq_none h] at hu; cases hu
  rw [bts_length, hlt] at hj
  have e : bts (ys.take k) = (bts ys).take k := by simp [bts, List.map_take]
  rw [e, List.getElem?_take_of_lt hj] at hu
  exact hu
theorem cut_un {P : Po} {l : List Ed} {d : List Int} (h : Full P l d) (hc : chkB P l = true) {k : Nat} (hk : k < (packP P l d).length) : (uZ ((packP P l d).take k)).e = 3 := by
  rw [packP_app h.may h.en h.sn] at hk ⊢
  have h := unpack_cut h hc (r := []) (by intro x hx; simp at hx) k (ys := (packB P l d).take k) (by rw [List.append_nil])
  rcases h with h | h
  · exact h.2
  · omega
theorem more_un {P : Po} {l : List Ed} {d : List Int} (h : Full P l d) (hc : chkB P l = true) {x : Int} (hx : 0 ≤ x ∧ x < 256) : (uZ (packP P l d ++ [x])).e = 4 := by
  rw [packP_app h.may h.en h.sn]
  have h := unpack_cut h hc (r := [x]) (by intro y hy; simp only [List.mem_singleton] at hy; omega) ((packB P l d).length + 1) (ys := packB P l d ++ [x]) (by rw [List.take_of_length_le (by simp)])
  rcases h with h | h
  · omega
  · exact h.2.1 (by rw [Nat.add_sub_cancel_left]; simp)
theorem packP_pos {P : Po} {l : List Ed} {d : List Int} (h : Full P l d) : 0 < (packP P l d).length := by
  rw [packP_app h.may h.en h.sn]
  unfold packB
  rw [List.length_append, Wr.be_length]
  omega

set_option maxHeartbeats 4000000 in
theorem postCut_at (W : World) (S : Nat → Prop) (P : Po) (l : List En) (d : List Int) (hp : PoAt W S P l d) (hbl : ∀ x ∈ l, Byt x.bs) (hbd : Byt d) (n : Int) (x : Int) (hx : 0 ≤ x ∧ x < 256) :
    Calls Try.prog 11 #[P.v, .int .i64 n, .int .u8 x] W (TrueB W) := by
  cases hc : chkB P (l.map En.ed)
  · have HC := Lib.hid hc
    have HP0 := Lib.hid hp
    clear hc hp hbl hbd
    go_enter Try.func11, Try.ntmps11
    go_wp2_with fail
    obtain ⟨wg, hwg⟩ : ∃ u, u = W.alloc (.cells P.cs 27) := ⟨_, rfl⟩
    have hk : Below W.heap.size W wg := by rw [hwg]; exact Ba (B0 W) _
    have HP := Lib.hid (HP0.out.below hk)
    have HB := Lib.hid hk
    rw [← hwg]
    clear hwg hk
    refine (pack_bad _ _ l d wg HP.out HC.out).mono ?_
    rintro e w2 ⟨rfl, hk⟩
    replace HB := Lib.hid (Bt HB.out hk)
    clear hk
    go_wp2_with fail
    refine (awake_any w2).mono ?_
    rintro e w4 ⟨rfl, hk⟩
    replace HB := Lib.hid (Bt HB.out hk)
    clear hk
    go_wp2_with fail
    go_ret
    exact ⟨rfl, HB.out⟩
  · obtain ⟨i0, hi0, hz0, hz1, hz2⟩ := info_parts info5
    have HC := Lib.hid hc
    have HP0 := Lib.hid hp
    have hfull := full_of hp hc hbl hbd
    have HFU := Lib.hid hfull
    have HY := Lib.hid (packP_byt hfull)
    have HN := Lib.hid (packP_len d hfull.may hp.dlen)
    have HPS := Lib.hid (packP_pos hfull)
    have HM := Lib.hid (more_un hfull hc hx)
    have HCU := Lib.hid (fun k (hk : k < (packP P (l.map En.ed) d).length) => cut_un hfull hc hk)
    have HX := Lib.hid hx
    obtain ⟨ys, hys⟩ : ∃ ys, ys = packP P (l.map En.ed) d := ⟨_, rfl⟩
    rw [← hys] at HY HN HPS HM HCU
    have HYS := Lib.hid hys
    clear hc hp hbl hbd hfull hys hx
    go_enter Try.func11, Try.ntmps11
    go_wp2_with fail
    obtain ⟨wg, hwg⟩ : ∃ u, u = W.alloc (.cells P.cs 27) := ⟨_, rfl⟩
    have hk : Below W.heap.size W wg := by rw [hwg]; exact Ba (B0 W) _
    have HP := Lib.hid (HP0.out.below hk)
    have HB := Lib.hid hk
    rw [← hwg]
    clear hwg hk
    refine (pack_ok _ _ l d wg HP.out HC.out).mono ?_
    rw [← HYS.out]
    rintro e w2 ⟨A2, c2, rfl, hf⟩
    obtain ⟨g2, rest, rfl, _, _⟩ := own_row hf.own HPS.out (by omega)
    replace HB := Lib.hid (Bt HB.out hf.kept)
    have hfr := hf.rd
    have HF := Lib.hid hfr
    have hcap := hfr.cap
    unfold maxLen at hcap
    obtain ⟨_, hc1, hc2⟩ := hcap
    clear hf hfr
    go_wp2_with fail
    refine (bring_any n (ys.length : Int) w2 (by have := HN.out; omega)).mono ?_
    rintro e w3 ⟨rfl, rfl⟩
    have hbr := bringF_lt n (ys.length : Int) (by have := HPS.out; omega)
    obtain ⟨k, hk⟩ : ∃ k : Nat, bringF n (ys.length : Int) = k := ⟨(bringF n (ys.length : Int)).toNat, by omega⟩
    rw [hk] at hbr ⊢
    have hk0 : (0 : Int) ≤ (k : Int) := hbr.1
    have hk1 : (k : Int) ≤ (c2 : Int) := by omega
    have HK := Lib.hid (show k < ys.length by omega)
    clear hk hbr
    go_wp2_with fail
    have hlk : (ys.take k).length = k := by have := HK.out; simp; omega
    have hrk := rd_take HF.out (Nat.le_of_lt HK.out)
    have hrk2 : Rd w2 (fun i => i < w2.heap.size) 1 (.slice (some ⟨g2, 0, none⟩) (ys.take k).length c2) (ys.take k).length (bts (ys.take k)) := hrk
    have hun := un_any _ (some ⟨g2, 0, none⟩) c2 (ys.take k) w2 hrk2 (fun _ h => h) (HY.out.take k) (by have := HN.out; have := HK.out; omega)
    rw [hlk] at hun
    refine hun.mono ?_
    rintro e w3 ⟨Q, m, d', rfl, hq, hk, hcase⟩
    rw [HCU.out k HK.out]
    clear hcase hq hun hrk hrk2 hlk
    replace HB := Lib.hid (Bt HB.out hk)
    have HW2 := Lib.hid hk.size
    replace HF := Lib.hid (HF.out.below hk (fun _ h => h))
    clear hk
    go_wp2_with fail
    obtain ⟨wq, hwq⟩ : ∃ u, u = w3.alloc (.cells Q.cs 27) := ⟨_, rfl⟩
    have hk : Below w3.heap.size w3 wq := by rw [hwq]; exact Ba (B0 w3) _
    rw [← hwq]
    clear hwq
    replace HB := Lib.hid (Bt HB.out hk)
    replace HF := Lib.hid (HF.out.below hk (fun i hi => Nat.lt_of_lt_of_le hi HW2.out))
    clear hk
    have HWB := Lib.hid HB.out.size
    refine (copy_bytes _ _ ys wq HF.out (by have := HN.out; omega)).mono ?_
    rintro e w4 ⟨A4, c4, rfl, hf⟩
    replace HB := Lib.hid (Bt HB.out hf.kept)
    have HO := Lib.hid (hf.own.alloc (.cells #[.int .u8 x] 5))
    have HWQ := Lib.hid hf.kept.size
    clear hf hk1 hc1 hc2
    go_wp2_with (at_builtin; refine wpList_append_rd _ rfl (.tmp 36) (.tmp 38) _ rfl wq.heap.size 5 i0 _ 1 1 Try.underlying23 hi0 hz0 hz1 hz2 rfl (by omega) (.slice A4 ys.length c4) ys.length (bts ys) rfl HO.out (fun k => k = w4.heap.size) (.slice (some ⟨w4.heap.size, 0, none⟩) 1 1) 1 [.int .u8 x] rfl (Rd.box w4 5 [.int .u8 x] 1 rfl) (by simp [Value.oneCell']) (by have := HN.out; simp only [maxLen]; omega) (by have := HN.out; omega) (by have := HWQ.out; simp; omega) ?_; intro v2 w5 HA)
    obtain ⟨A5, c5, rfl⟩ := own_slice HA.own
    replace HB := Lib.hid ((Ba HB.out _).grown HA.grown (by have := HB.out.size; simp; omega) (fun j hj => Nat.le_trans HWB.out (own_ge HO.out j hj)))
    have hr5 : Rd w5 (fun i => (Value.slice A5 (ys.length + 1) c5).ownBlock = some i) 1 (.slice A5 (ys ++ [x]).length c5) (ys ++ [x]).length (bts (ys ++ [x])) := by
      have h := Rd.of_own HA.own
      have e1 : (ys ++ [x]).length = ys.length + 1 := by simp
      have e2 : bts (ys ++ [x]) = bts ys ++ [.int .u8 x] := by simp [bts]
      rw [e1, e2]
      exact h
    have hun := un_any _ A5 c5 (ys ++ [x]) w5 hr5 (own_lt HA.own) (Byt.append HY.out (by intro y hy; simp only [List.mem_singleton] at hy; have := HX.out; omega)) (by have := HN.out; simp; omega)
    rw [show (ys ++ [x]).length = ys.length + 1 by simp] at hun
    clear HA
    refine hun.mono ?_
    rintro e w6 ⟨Q2, m2, d2, rfl, hq, hk, hcase⟩
    rw [HM.out]
    replace HB := Lib.hid (Bt HB.out hk)
    clear hcase hq hun hr5 hk
    go_wp2_with fail
    refine (awake_any _).mono ?_
    rintro e w7 ⟨rfl, hk⟩
    replace HB := Lib.hid (Bt (Ba HB.out _) hk)
    clear hk
    go_wp2_with fail
    go_ret
    exact ⟨rfl, HB.out⟩
theorem postCut_walk {H : Type} {enc : TypeId × Value → H} (W : World) {base : Nat} {sp : Nat → Bool} {held : Bool} {v : Value} {d : DataW H} {pl : List MemPlace} (hv : Value.okWide Try.prog W .any base 27 v) (ht : DataW.Trod enc Try.prog W 0 sp held 27 v d pl)
    (hz : ∀ n ∈ d.weights Try.prog 27, n ≤ reachBytes) (n : Int) (w1 : (Lit.int .i64 n).wf = true) (x : Int) (w2 : (Lit.int .u8 x).wf = true) :
    Calls Try.prog 11 #[v, .int .i64 n, .int .u8 x] W fun e w' => e = .returned (.bool true) ∧ Below W.heap.size W w' := by
  obtain ⟨p, l, bs, rfl, hp⟩ := open_post hv ht hz
  exact postCut_at W _ p l bs hp.at_ (fun x hx => (hp.ents.each x hx).2.2.2.2) hp.byt n x (u8_wf w2)
end Go.Proofs.Ytnphnaggamfoiaa
