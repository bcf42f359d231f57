/- Both tables tell the same: alike. -/
import Derived.Test.YtgmndppjdnpejaaR11
namespace Go.Proofs.Ytgmndppjdnpejaa
open Go.RowKit
set_option maxRecDepth 20000
set_option linter.unusedVariables false
set_option linter.unusedSimpArgs false

/-- What is done. -/
structure Dd where
  st : Bool
  m : Nm
  tk : Int
  ks : List Int
  port : Int
def Dd.L (d : Dd) : List Value := .bool d.st :: (d.m.L ++ (.int .i64 d.tk :: (bts d.ks ++ [.int .i64 d.port])))
abbrev Dd.v (d : Dd) : Value := .agg d.L.toArray
structure DdOk (d : Dd) : Prop where
  m32 : d.m.ks.length = 32
  k32 : d.ks.length = 32
  kb : Byt d.ks
theorem Dd.len {d : Dd} (h : DdOk d) : d.L.length = 72 := by simp [Dd.L, Nm.len h.m32, bts, h.k32]
theorem Dd.one (d : Dd) : ∀ v ∈ d.L, v.oneCell' = true := by
  intro v hv
  simp only [Dd.L, List.mem_cons, List.mem_append, bts, List.mem_map, List.not_mem_nil, or_false] at hv
  rcases hv with rfl | h | rfl | ⟨x, _, rfl⟩ | rfl
  · rfl
  · exact Nm.one _ v h
  · rfl
  · rfl
  · rfl
theorem big_deed : BigT 37 72 := ⟨by kernel_rfl, _, Try.underlying37, rfl⟩
/-- The cells of a deed that lies from offset o on. -/
theorem dd_cells {w : World} {b o : Nat} {d : Dd} (h : w.rangeAt b o d.L) (hk : DdOk d) :
    w.cell? ⟨b, o, none⟩ = some (.bool d.st) ∧ w.rangeAt b (o + 1) d.m.L ∧ w.cell? ⟨b, o + 38, none⟩ = some (.int .i64 d.tk) ∧ w.rangeAt b (o + 39) (bts d.ks) ∧ w.cell? ⟨b, o + 71, none⟩ = some (.int .i64 d.port) := by
  have hl := Nm.len hk.m32
  have hb : (bts d.ks).length = 32 := by rw [bts_length]; exact hk.k32
  have e : ∀ j, d.L[37 + 1 + j]? = (.int .i64 d.tk :: (bts d.ks ++ [.int .i64 d.port]) : List Value)[j]? := fun j => by
    unfold Dd.L
    rw [show 37 + 1 + j = (37 + j) + 1 by omega, List.getElem?_cons_succ, List.getElem?_append_right (by omega), hl]
    congr 1
    omega
  refine ⟨h 0 _ rfl, range_sub h (fun j u hu => ?_), ?_, range_sub h (fun j u hu => ?_), ?_⟩
  · have hj : j < d.m.L.length := (List.getElem?_eq_some_iff.1 hu).1
    unfold Dd.L
    rw [Nat.add_comm 1 j, List.getElem?_cons_succ, List.getElem?_append_left hj]
    exact hu
  · exact h 38 _ (e 0)
  · have hj : j < (bts d.ks).length := (List.getElem?_eq_some_iff.1 hu).1
    rw [show 39 + j = 37 + 1 + (j + 1) by omega, e (j + 1), List.getElem?_cons_succ, List.getElem?_append_left hj]
    exact hu
  · refine h 71 _ ?_
    rw [show 71 = 37 + 1 + (32 + 1) by omega, e (32 + 1), List.getElem?_cons_succ, List.getElem?_append_right (by omega), hb]
    rfl
/-- A list of numbers that may be overwritten. -/
def ListAt (w : World) (B : Nat) (A : Option Addr) (n : Nat) : Prop := n = 0 ∨ ∃ g cur, A = some ⟨g, 0, none⟩ ∧ B ≤ g ∧ Blk w g 3 cur ∧ n ≤ cur.size
theorem exec_neK {r : Operand → Value} {op : Oper} {w : World} (x y : Operand) (ho : op.op = .binOp .neq 31 x y 31) (xs ys : List Int) (hx : r x = .agg (bts xs).toArray) (hy : r y = .agg (bts ys).toArray) (hxl : xs.length = 32) (hyl : ys.length = 32) (b : Bool) (hb : (!(xs == ys)) = b) : (execOp r op).run Try.prog w = .ok (.value (.bool b)) w := by
  unfold execOp
  simp only [ho, hx, hy, Sem.run_bind, run_eqGuard_agg w .neq 31 x y _ _ guard_key, run_neq_struct, eq_key hxl hyl, Result.andThen_ok, Sem.run_pure]
  rw [hb]
theorem list_at {w : World} {B n c : Nat} {A : Option Addr} {xs : List Value} (h : w.ownsRow B 3 1 (.slice A n c) n xs) : ListAt w B A n := by
  rcases h.2 with ⟨_, h⟩ | ⟨g, cap, cur, e, hb, hh, hn, _, hs, _⟩
  · exact .inl h
  · injection e with e1 e2 e3
    exact .inr ⟨g, cur, e1, hb, hh, by omega⟩
set_option maxHeartbeats 8000000 in
theorem alike_any (S T : Nat → Prop) (g h : Nat) (node tick : Int) (has : Bool) (m : Nm) (qs : List Pe) (d : Dd) (W : World) (ha : TbAt W S g node tick m.ver qs) (hb : RtAt W T h node has m tick) (hl : Link m qs) (hn : 1 ≤ node) (hd : DdOk d) (z0 : m.ps.length * 96 ≤ 140737488355328) :
    Calls Try.prog 18 #[.pointer (some ⟨g, 0, none⟩), .pointer (some ⟨h, 0, none⟩), d.v] W fun e w' => e = .returned (.bool true) ∧ Below W.heap.size W w' := by
  obtain ⟨w1, hw1⟩ : ∃ u, u = W.alloc (.cells d.L.toArray 37) := ⟨_, rfl⟩
  have hb1 : Below W.heap.size W w1 := by rw [hw1]; exact Ba (B0 W) _
  have HG := Lib.hid (show Blk w1 W.heap.size 37 d.L.toArray by rw [hw1]; exact Blk.new _ _ _)
  have HB := Lib.hid hb1
  have HW1 := Lib.hid hw1
  have HA := Lib.hid (ha.below hb1)
  have HR := Lib.hid (hb.below hb1)
  have HL := Lib.hid hl
  have HD := Lib.hid hd
  have HK32 := Lib.hid hd.k32
  have HKB := Lib.hid hd.kb
  have HLK := Lib.hid (show (bts d.ks).length = 32 by rw [bts_length]; exact hd.k32)
  have HND := Lib.hid (show ∀ p ∈ qs, 1 ≤ p.nd ∧ p.nd ≤ 8 from fun q hq => by
    rcases hl.2 with ho | e
    · obtain ⟨p, hp, e⟩ := mem_px hl.1 hq
      rw [show q.nd = p.nd from congrArg Px.nd e]
      exact ho.nd p hp
    · rw [hl.nil e] at hq; simp at hq)
  clear ha hb hl hd hb1 hw1
  go_enter Try.func18, Try.ntmps18
  go_upto_region 1 with fail
  change Code.wp _ _ _ _ (W.alloc (.cells d.L.toArray 37))
  rw [← HW1.out]
  have HXK := Lib.hid (dd_cells (blk_range HG.out) HD.out).2.2.2.1
  go_wp2_with (first | (refine step_load big_key (by first | rfl | simp [Region.wanted, yielded]) (.tmp 24) rfl W.heap.size 39 rfl (bts d.ks) HLK.out (by have := HXK.out; rwa [Nat.zero_add] at this) ?_) | fail)
  refine (key_any S g node tick m.ver qs d.ks w1 HA.out hn HND.out HK32.out HKB.out).mono ?_
  have hlk := map_px (lk_key HL.out tick d.ks)
  obtain ⟨x, hx⟩ : ∃ x, x = ((pkN tick qs (nodeK qs d.ks)).getD zPe).nd := ⟨_, rfl⟩
  obtain ⟨b, hbq⟩ : ∃ b, b = (pkN tick qs (nodeK qs d.ks)).isSome := ⟨_, rfl⟩
  have HX2 := Lib.hid (show ((kyP tick m.ps d.ks).getD zPe).nd = x by rw [hx]; exact (congrArg Px.nd hlk.2).symm)
  have HBB2 := Lib.hid (show (kyP tick m.ps d.ks).isSome = b by rw [hbq]; exact hlk.1.symm)
  unfold KeyDid
  rw [← hx, ← hbq]
  rintro e w2 ⟨rfl, hb2⟩
  replace HA := Lib.hid (HA.out.below hb2)
  replace HR := Lib.hid (HR.out.below hb2)
  replace HB := Lib.hid (Bt HB.out hb2)
  replace HG := Lib.hid (HG.out.later hb2)
  clear hb2 hx hbq hlk
  have HXK2 := Lib.hid (dd_cells (blk_range HG.out) HD.out).2.2.2.1
  go_wp2_with (first | (refine step_load big_key (by first | rfl | simp [Region.wanted, yielded]) (.tmp 31) rfl W.heap.size 39 rfl (bts d.ks) HLK.out (by have := HXK2.out; rwa [Nat.zero_add] at this) ?_) | fail)
  refine (rkey_any T h node tick has m d.ks w2 HR.out z0 HK32.out).mono ?_
  unfold KeyDid
  rw [HX2.out, HBB2.out]
  rintro e w3 ⟨rfl, hb3⟩
  replace HA := Lib.hid (HA.out.below hb3)
  replace HR := Lib.hid (HR.out.below hb3)
  replace HB := Lib.hid (Bt HB.out hb3)
  replace HG := Lib.hid (HG.out.later hb3)
  clear hb3
  go_wp2_with fail
  have HS3 := Lib.hid HA.out.lts
  have HT3 := Lib.hid HR.out.lts
  have HG3 := Lib.hid HG.out.lt
  refine (list_any S g node tick m.ver qs w3 HA.out hn).mono ?_
  obtain ⟨l, hle⟩ : ∃ l, l = listN tick qs 8 := ⟨_, rfl⟩
  have HLL := Lib.hid (show (cntP tick m.ps).map Pe.nd = l by rw [hle]; exact (lk_list HL.out tick).symm)
  have hl8 : l.length ≤ 8 := by rw [hle]; exact listN_len tick qs 8
  rw [← hle]
  rintro e w4 ⟨A4, c4, rfl, ho4, hb4⟩
  replace HA := Lib.hid (HA.out.below hb4)
  replace HR := Lib.hid (HR.out.below hb4)
  replace HB := Lib.hid (Bt HB.out hb4)
  replace HG := Lib.hid (HG.out.later hb4)
  have HO4 := Lib.hid ho4
  have HS34 := Lib.hid hb4.size
  clear hle ho4 hb4
  go_wp2_with fail
  refine (version_any S g node tick m.ver qs w4 HA.out hn).mono ?_
  rintro e w' ⟨rfl, rfl⟩
  go_wp2_with fail
  refine (rversion_any T h node tick has m w4 HR.out).mono ?_
  rintro e w' ⟨rfl, rfl⟩
  go_wp2_with fail
  refine (rlist_any T h node tick has m w4 HR.out z0).mono ?_
  rw [HLL.out]
  rintro e w5 ⟨A5, c5, rfl, ho5, hb5⟩
  replace HA := Lib.hid (HA.out.below hb5)
  replace HR := Lib.hid (HR.out.below hb5)
  replace HB := Lib.hid (Bt HB.out hb5)
  replace HG := Lib.hid (HG.out.later hb5)
  replace HO4 := Lib.hid (own_below HO4.out hb5)
  replace HS34 := Lib.hid (Nat.le_trans HS34.out hb5.size)
  have HO5 := Lib.hid ho5
  clear ho5 hb5
  go_wp2_with fail
  refine (ints_same _ _ A4 A5 c4 c5 l w5 (Rd.of_own HO4.out) (Rd.of_own HO5.out)).mono ?_
  rintro e w6 ⟨rfl, n6, hw6⟩
  have hb6 : Below w5.heap.size w5 w6 := by rw [hw6]; exact BdN (B0 _) _
  replace HA := Lib.hid (HA.out.below hb6)
  replace HR := Lib.hid (HR.out.below hb6)
  replace HB := Lib.hid (Bt HB.out hb6)
  replace HG := Lib.hid (HG.out.later hb6)
  have HLA := Lib.hid (list_at (own_below HO4.out hb6))
  replace HS34 := Lib.hid (Nat.le_trans HS34.out hb6.size)
  have hcl : (l.length : Int) ≤ 8 := by omega
  clear hw6 hb6 HO4 HO5
  go_wp2_with fail
  go_loopw [12] (fun i wr => ∃ k : Nat, k ≤ l.length ∧ i = .int .i64 k ∧ ListAt wr w3.heap.size A4 l.length ∧ Mod (fun j => w3.heap.size ≤ j) w6 wr) (fun i _ => l.length - (intOf i).toNat)
  case atStart => exact ⟨0, Nat.zero_le _, rfl, HLA.out, Mod.refl _ _⟩
  case round =>
    obtain ⟨k, hk, rfl, hla, hmd⟩ := hrel
    obtain ⟨wv, rfl⟩ : ∃ wv, wv = wr := ⟨_, rfl⟩
    have HMD := Lib.hid hmd
    clear hmd
    by_cases hlt : k < l.length
    · have hlt' : (k : Int) < (l.length : Int) := by omega
      have hk0 : (0 : Int) ≤ (k : Int) := by omega
      rcases hla with h0 | ⟨g4, cur, hA, hg4, hblk, hcs⟩
      · omega
      · subst hA
        have HBK := Lib.hid hblk
        have HGE := Lib.hid hg4
        have hkc : k < cur.size := by omega
        have c0 : wv.cell? ⟨g4, k, none⟩ = some cur[k] := (hblk.cell k).trans (Array.getElem?_eq_getElem hkc)
        have f0 := hblk.frozen k
        have lg4 := hblk.lt
        clear hblk hg4
        go_wp2_with fail
        go_roundw
        case rel => exact ⟨k + 1, by omega, by go_num, .inr ⟨g4, _, rfl, HGE.out, HBK.out.set_ k _, by simpa using hcs⟩, HMD.out.setCell (p := ⟨g4, k, none⟩) (.inl HGE.out) _⟩
        case measure => simp [intOf]; omega
    · obtain rfl : k = l.length := by omega
      replace HA := Lib.hid (HA.out.kept HMD.out (fun i hi hj => by have := HS3.out i hi; omega))
      replace HR := Lib.hid (HR.out.kept HMD.out (fun i hi hj => by have := HT3.out i hi; omega))
      replace HG := Lib.hid (HG.out.kept HMD.out (fun hj => by have := HG3.out; omega))
      replace HB := Lib.hid (Bm HB.out HMD.out (fun i hi => by have := HG3.out; omega))
      have HPO := Lib.hid (dd_cells (blk_range HG.out) HD.out).2.2.2.2
      obtain ⟨port, hport⟩ : ∃ x, x = d.port := ⟨_, rfl⟩
      rw [← hport, Nat.zero_add] at HPO
      clear hla hport
      go_wp2_with fail
      go_loopw [13] (fun i wr2 => ∃ n : Int, -1 ≤ n ∧ n ≤ 10 ∧ i = .int .i64 n ∧ Below wv.heap.size wv wr2) (fun i _ => (10 - intOf i).toNat)
      case atStart => exact ⟨-1, by omega, by omega, rfl, B0 _⟩
      case round =>
        obtain ⟨n, hn0, hn1, rfl, hbn⟩ := hrel
        obtain ⟨w7, rfl⟩ : ∃ w7, w7 = wr := ⟨_, rfl⟩
        have HBN := Lib.hid hbn
        clear hbn
        by_cases hn9 : n ≤ 9
        · have hn9' : decide (n ≤ 9) = true := decide_eq_true hn9
          have HA7 := Lib.hid (HA.out.below HBN.out)
          have HR7 := Lib.hid (HR.out.below HBN.out)
          have HP7 := Lib.hid ((HBN.out.cell (p := ⟨W.heap.size, 71, none⟩) HG.out.lt).trans HPO.out)
          have HLB := Lib.hid (map_px (lk_by HL.out tick n))
          have HQA := Lib.hid (pkN_at (tick := tick) (n := n) HA7.out.each)
          obtain ⟨kk, hkk⟩ : ∃ x, x = ((pkN tick qs n).getD zPe).ks := ⟨_, rfl⟩
          obtain ⟨bs, hbs⟩ : ∃ x, x = (pkN tick qs n).isSome := ⟨_, rfl⟩
          obtain ⟨bi, hbi⟩ : ∃ x, x = wiB ((pkN tick qs n).getD zPe).ins port := ⟨_, rfl⟩
          obtain ⟨bo, hbo⟩ : ∃ x, x = wiB ((pkN tick qs n).getD zPe).outs port := ⟨_, rfl⟩
          have HK2 := Lib.hid (show ((byP tick m.ps n).getD zPe).ks = kk by rw [hkk]; exact (congrArg Px.ks HLB.out.2).symm)
          have HS2 := Lib.hid (show (byP tick m.ps n).isSome = bs by rw [hbs]; exact HLB.out.1.symm)
          have HI2 := Lib.hid (show wiB ((byP tick m.ps n).getD zPe).ins port = bi by rw [hbi]; exact (congrArg (fun x : Px => wiB x.ins port) HLB.out.2).symm)
          have HO2 := Lib.hid (show wiB ((byP tick m.ps n).getD zPe).outs port = bo by rw [hbo]; exact (congrArg (fun x : Px => wiB x.outs port) HLB.out.2).symm)
          have HI1 := Lib.hid hbi.symm
          have HO1 := Lib.hid hbo.symm
          have HKL := Lib.hid (show kk.length = 32 by rw [hkk]; exact HQA.out.k32)
          have HKB2 := Lib.hid (show Byt kk by rw [hkk]; exact HQA.out.kb)
          have HLKK := Lib.hid (show (bts kk).length = 32 by rw [bts_length]; exact HKL.out)
          have HCO := Lib.hid (bts_one' kk)
          have hG7 : W.heap.size < w7.heap.size := Nat.lt_of_lt_of_le HG.out.lt HBN.out.size
          clear hbi hbo
          go_wp2_with fail
          refine (by_any S g node tick m.ver qs n w7 HA7.out hn (by omega) (by omega)).mono ?_
          rw [← hkk, ← hbs]
          rintro e w8 ⟨rfl, hb8⟩
          have HB8 := Lib.hid hb8
          clear hkk hbs hb8
          go_upto_region 14 with (first | (refine step_store big_key rfl (.tmp 14) (.tmp 77) rfl w8.heap.size rfl (bts kk) HLKK.out HCO.out rfl 31 _ (Blk.new w8 31 (bts z32).toArray) (by simp [bts, z32]) ?_; intro w9 hb9 hm9 hs9; have HC9 := Lib.hid hb9; have HM9 := Lib.hid hm9; clear hb9 hm9 hs9) | fail)
          have HB9 := Lib.hid (show Below w7.heap.size w7 w9 from Bm (Ba HB8.out _) HM9.out (fun i hi => by have := HB8.out.size; omega))
          go_wp2_with fail
          refine (rBy_any T h node tick has m n w9 (HR7.out.below HB9.out) z0).mono ?_
          rw [HK2.out, HS2.out]
          rintro e w10 ⟨rfl, hb10⟩
          have HB10 := Lib.hid hb10
          have HC10 := Lib.hid (HC9.out.later hb10)
          clear hb10
          go_upto_region 15 with (first | (refine step_store big_key rfl (.tmp 16) (.tmp 83) rfl w10.heap.size rfl (bts kk) HLKK.out HCO.out rfl 31 _ (Blk.new w10 31 (bts z32).toArray) (by simp [bts, z32]) ?_; intro w11 hb11 hm11 hs11; have HC11 := Lib.hid hb11; have HM11 := Lib.hid hm11; clear hb11 hm11 hs11) | fail)
          have hb1011 : Below w10.heap.size w10 w11 := Bm (Ba (B0 w10) _) HM11.out (fun i hi => by omega)
          have HB11 := Lib.hid (show Below w7.heap.size w7 w11 from Bt (Bt HB9.out HB10.out) hb1011)
          have HD11 := Lib.hid (HC10.out.later hb1011)
          have HA11 := Lib.hid (HA7.out.below HB11.out)
          have HR11 := Lib.hid (HR7.out.below HB11.out)
          have HP11 := Lib.hid ((HB11.out.cell (p := ⟨W.heap.size, 71, none⟩) hG7).trans HP7.out)
          have l8 := HD11.out.lt
          have l10 := HC11.out.lt
          have hG11 : W.heap.size < w11.heap.size := Nat.lt_of_lt_of_le hG7 HB11.out.size
          clear hb1011
          refine wp_region_held_drew (S := fun w' => w'.rangeAt w8.heap.size 0 (bts kk) ∧ w'.rangeAt w10.heap.size 0 (bts kk) ∧ w'.cell? ⟨W.heap.size, 71, none⟩ = some (.int .i64 port) ∧ Below w11.heap.size w11 w') (by kernel_rfl) (⟨blk_range (HD11.out.later (Bd (B0 w11))), blk_range (HC11.out.later (Bd (B0 w11))), ((Bd (B0 w11)).cell (p := ⟨W.heap.size, 71, none⟩) hG11).trans HP11.out, Bd (B0 w11)⟩) (fun hHeld => ?_)
          refine wpAnyH_take (i := 0) (v := ?_) rfl (by kernel_rfl) (by kernel_rfl) (by kernel_rfl) (fun _ _ _ h => h) (Or.inl ⟨by kernel_rfl, ?_⟩) (by assumption) ?_
          rotate_left 1
          · (intro w hSw; refine exec_load big_key (.tmp 14) ?_ w8.heap.size 0 ?_ (bts kk) HLKK.out hSw.1 <;> rfl)
          try simp only [Act.put, List.getElem_toArray, List.getElem_cons_succ, List.getElem_cons_zero, List.setIfInBounds_toArray, List.set_cons_zero, List.set_cons_succ]
          refine wpAnyH_take (i := 1) (v := ?_) rfl (by kernel_rfl) (by kernel_rfl) (by kernel_rfl) (fun _ _ _ h => h) (Or.inl ⟨by kernel_rfl, ?_⟩) (by assumption) ?_
          rotate_left 1
          · (intro w hSw; refine exec_load big_key (.tmp 16) ?_ w10.heap.size 0 ?_ (bts kk) HLKK.out hSw.2.1 <;> rfl)
          try simp only [Act.put, List.getElem_toArray, List.getElem_cons_succ, List.getElem_cons_zero, List.setIfInBounds_toArray, List.set_cons_zero, List.set_cons_succ]
          refine wpAnyH_take (i := 2) (v := ?_) rfl (by kernel_rfl) (by kernel_rfl) (by kernel_rfl) (fun _ _ _ h => h) (Or.inl ⟨by kernel_rfl, ?_⟩) (by assumption) ?_
          rotate_left 1
          · (intro w hSw; refine exec_neK (.tmp 85) (.tmp 86) ?_ kk kk ?_ ?_ HKL.out HKL.out false (by simp) <;> rfl)
          try simp only [Act.put, List.getElem_toArray, List.getElem_cons_succ, List.getElem_cons_zero, List.setIfInBounds_toArray, List.set_cons_zero, List.set_cons_succ]
          refine wpAnyH_take (i := 3) (v := ?_) rfl (by kernel_rfl) (by kernel_rfl) (by kernel_rfl) (fun _ _ _ h => h) (Or.inl ⟨by kernel_rfl, ?_⟩) (by assumption) ?_
          rotate_left 1
          · (intro w hSw; (try dsimp only at hSw); go_simp; try with_reducible rfl)
          try simp only [Act.put, List.getElem_toArray, List.getElem_cons_succ, List.getElem_cons_zero, List.setIfInBounds_toArray, List.set_cons_zero, List.set_cons_succ]
          refine wpAnyH_take (i := 4) (v := ?_) rfl (by kernel_rfl) (by kernel_rfl) (by kernel_rfl) (fun _ _ _ h => h) (Or.inl ⟨by kernel_rfl, ?_⟩) (by assumption) ?_
          rotate_left 1
          · (intro w hSw; (try dsimp only at hSw); go_simp; try with_reducible rfl)
          try simp only [Act.put, List.getElem_toArray, List.getElem_cons_succ, List.getElem_cons_zero, List.setIfInBounds_toArray, List.set_cons_zero, List.set_cons_succ]
          refine wpAnyH_take (i := 5) (v := ?_) rfl (by kernel_rfl) (by kernel_rfl) (by kernel_rfl) (fun _ _ _ h => h) (Or.inl ⟨by kernel_rfl, ?_⟩) (by assumption) ?_
          rotate_left 1
          · (intro w hSw; (try dsimp only at hSw); go_simp; try with_reducible rfl)
          try simp only [Act.put, List.getElem_toArray, List.getElem_cons_succ, List.getElem_cons_zero, List.setIfInBounds_toArray, List.set_cons_zero, List.set_cons_succ]
          refine wpAnyH_take (i := 6) (v := ?_) rfl (by kernel_rfl) (by kernel_rfl) (by kernel_rfl) (fun _ _ _ h => h) (Or.inl ⟨by kernel_rfl, ?_⟩) (by assumption) ?_
          rotate_left 1
          · (intro w hSw; (try dsimp only at hSw); go_simp; try with_reducible rfl)
          try simp only [Act.put, List.getElem_toArray, List.getElem_cons_succ, List.getElem_cons_zero, List.setIfInBounds_toArray, List.set_cons_zero, List.set_cons_succ]
          refine wpAnyH_take (i := 7) (v := ?_) rfl (by kernel_rfl) (by kernel_rfl) (by kernel_rfl) (fun _ _ _ h => h) (Or.inl ⟨by kernel_rfl, ?_⟩) (by assumption) ?_
          rotate_left 1
          · (intro w hSw; (try dsimp only at hSw); go_simp; try with_reducible rfl)
          try simp only [Act.put, List.getElem_toArray, List.getElem_cons_succ, List.getElem_cons_zero, List.setIfInBounds_toArray, List.set_cons_zero, List.set_cons_succ]
          refine wpAnyH_take (i := 8) (v := ?_) rfl (by kernel_rfl) (by kernel_rfl) (by kernel_rfl) (fun _ _ _ h => h) (Or.inl ⟨by kernel_rfl, ?_⟩) (by assumption) ?_
          rotate_left 1
          · (intro w hSw; (try dsimp only at hSw); go_simp; try with_reducible rfl)
          try simp only [Act.put, List.getElem_toArray, List.getElem_cons_succ, List.getElem_cons_zero, List.setIfInBounds_toArray, List.set_cons_zero, List.set_cons_succ]
          refine wpAnyH_take (i := 9) (v := ?_) rfl (by kernel_rfl) (by kernel_rfl) (by kernel_rfl) (fun _ _ _ h => h) (Or.inl ⟨by kernel_rfl, ?_⟩) (by assumption) ?_
          rotate_left 1
          · (intro w hSw; (try dsimp only at hSw); go_simp; try with_reducible rfl)
          try simp only [Act.put, List.getElem_toArray, List.getElem_cons_succ, List.getElem_cons_zero, List.setIfInBounds_toArray, List.set_cons_zero, List.set_cons_succ]
          refine wpAnyH_take (i := 10) (v := ?_) rfl (by kernel_rfl) (by kernel_rfl) (by kernel_rfl) (fun _ _ _ h => h) (Or.inl ⟨by kernel_rfl, ?_⟩) (by assumption) ?_
          rotate_left 1
          · (intro w hSw; (try dsimp only at hSw); go_simp; try with_reducible rfl)
          try simp only [Act.put, List.getElem_toArray, List.getElem_cons_succ, List.getElem_cons_zero, List.setIfInBounds_toArray, List.set_cons_zero, List.set_cons_succ]
          refine wpAnyH_take (i := 11) (v := ?_) rfl (by kernel_rfl) (by kernel_rfl) (by kernel_rfl) (fun _ _ _ h => h) (Or.inl ⟨by kernel_rfl, ?_⟩) (by assumption) ?_
          rotate_left 1
          · (intro w hSw; (try dsimp only at hSw); go_simp; try with_reducible rfl)
          try simp only [Act.put, List.getElem_toArray, List.getElem_cons_succ, List.getElem_cons_zero, List.setIfInBounds_toArray, List.set_cons_zero, List.set_cons_succ]
          refine wpAnyH_take (i := 12) (v := ?_) rfl (by kernel_rfl) (by kernel_rfl) (by kernel_rfl) (fun _ _ _ h => h) (Or.inl ⟨by kernel_rfl, ?_⟩) (by assumption) ?_
          rotate_left 1
          · (intro w hSw; (try dsimp only at hSw); go_simp; try with_reducible rfl)
          try simp only [Act.put, List.getElem_toArray, List.getElem_cons_succ, List.getElem_cons_zero, List.setIfInBounds_toArray, List.set_cons_zero, List.set_cons_succ]
          refine wpAnyH_take (i := 14) (v := ?_) rfl (by kernel_rfl) (by kernel_rfl) (by kernel_rfl) (fun _ _ _ h => h) (Or.inl ⟨by kernel_rfl, ?_⟩) (by assumption) ?_
          rotate_left 1
          · (intro w hSw; (try dsimp only at hSw); go_simp; try with_reducible rfl)
          try simp only [Act.put, List.getElem_toArray, List.getElem_cons_succ, List.getElem_cons_zero, List.setIfInBounds_toArray, List.set_cons_zero, List.set_cons_succ]
          refine wpAnyH_take (i := 15) (v := ?_) rfl (by kernel_rfl) (by kernel_rfl) (by kernel_rfl) (fun _ _ _ h => h) (Or.inl ⟨by kernel_rfl, ?_⟩) (by assumption) ?_
          rotate_left 1
          · (intro w hSw; (try dsimp only at hSw); go_simp; try with_reducible rfl)
          try simp only [Act.put, List.getElem_toArray, List.getElem_cons_succ, List.getElem_cons_zero, List.setIfInBounds_toArray, List.set_cons_zero, List.set_cons_succ]
          refine wpAnyH_take (i := 16) (v := ?_) rfl (by kernel_rfl) (by kernel_rfl) (by kernel_rfl) (fun _ _ _ h => h) (Or.inl ⟨by kernel_rfl, ?_⟩) (by assumption) ?_
          rotate_left 1
          · (intro w hSw; (try dsimp only at hSw); go_simp; try with_reducible rfl)
          try simp only [Act.put, List.getElem_toArray, List.getElem_cons_succ, List.getElem_cons_zero, List.setIfInBounds_toArray, List.set_cons_zero, List.set_cons_succ]
          refine wpAnyH_take (i := 17) (v := ?_) rfl (by kernel_rfl) (by kernel_rfl) (by kernel_rfl) (fun _ _ _ h => h) (Or.inl ⟨by kernel_rfl, ?_⟩) (by assumption) ?_
          rotate_left 1
          · (intro w hSw; (try dsimp only at hSw); go_simp; try with_reducible rfl)
          try simp only [Act.put, List.getElem_toArray, List.getElem_cons_succ, List.getElem_cons_zero, List.setIfInBounds_toArray, List.set_cons_zero, List.set_cons_succ]
          refine wpAnyH_ready (rs := [13]) (by kernel_rfl) (by simp) ?_
          refine AllReadyH.cons rfl (fun K hK => ?_) AllReadyH.nil
          go_simp
          refine (in_any S g node tick m.ver qs n port _ (HA11.out.below hHeld.2.2.2) hn (by omega) (by omega)).mono ?_; rw [HI1.out]; rintro e v13 ⟨rfl, hbv⟩; have HV13 := Lib.hid (Bt hHeld.2.2.2 hbv); clear hbv; dsimp only
          refine hK.out _ _ (⟨blk_range (HD11.out.later HV13.out), blk_range (HC11.out.later HV13.out), (HV13.out.cell (p := ⟨W.heap.size, 71, none⟩) hG11).trans HP11.out, HV13.out⟩) (fun hHeld => ?_)
          clear hK K
          try simp only [Act.put, List.getElem_toArray, List.getElem_cons_succ, List.getElem_cons_zero, List.setIfInBounds_toArray, List.set_cons_zero, List.set_cons_succ]
          refine wpAnyH_ready (rs := [18]) (by kernel_rfl) (by simp) ?_
          refine AllReadyH.cons rfl (fun K hK => ?_) AllReadyH.nil
          go_simp
          refine (rin_any T h node tick has m n port _ (HR11.out.below hHeld.2.2.2) z0).mono ?_; rw [HI2.out]; rintro e v18 ⟨rfl, hbv⟩; have HV18 := Lib.hid (Bt hHeld.2.2.2 hbv); clear hbv; dsimp only
          refine hK.out _ _ (⟨blk_range (HD11.out.later HV18.out), blk_range (HC11.out.later HV18.out), (HV18.out.cell (p := ⟨W.heap.size, 71, none⟩) hG11).trans HP11.out, HV18.out⟩) (fun hHeld => ?_)
          clear hK K
          try simp only [Act.put, List.getElem_toArray, List.getElem_cons_succ, List.getElem_cons_zero, List.setIfInBounds_toArray, List.set_cons_zero, List.set_cons_succ]
          refine wpAnyH_take (i := 19) (v := ?_) rfl (by kernel_rfl) (by kernel_rfl) (by kernel_rfl) (fun _ _ _ h => h) (Or.inl ⟨by kernel_rfl, ?_⟩) (by assumption) ?_
          rotate_left 1
          · (intro w hSw; (try dsimp only at hSw); go_simp; try with_reducible rfl)
          try simp only [Act.put, List.getElem_toArray, List.getElem_cons_succ, List.getElem_cons_zero, List.setIfInBounds_toArray, List.set_cons_zero, List.set_cons_succ]
          refine wpAnyH_take (i := 20) (v := ?_) rfl (by kernel_rfl) (by kernel_rfl) (by kernel_rfl) (fun _ _ _ h => h) (Or.inl ⟨by kernel_rfl, ?_⟩) (by assumption) ?_
          rotate_left 1
          · (intro w hSw; (try dsimp only at hSw); go_simp; try with_reducible rfl)
          try simp only [Act.put, List.getElem_toArray, List.getElem_cons_succ, List.getElem_cons_zero, List.setIfInBounds_toArray, List.set_cons_zero, List.set_cons_succ]
          refine wpAnyH_take (i := 21) (v := ?_) rfl (by kernel_rfl) (by kernel_rfl) (by kernel_rfl) (fun _ _ _ h => h) (Or.inl ⟨by kernel_rfl, ?_⟩) (by assumption) ?_
          rotate_left 1
          · (intro w hSw; (try dsimp only at hSw); go_simp; try with_reducible rfl)
          try simp only [Act.put, List.getElem_toArray, List.getElem_cons_succ, List.getElem_cons_zero, List.setIfInBounds_toArray, List.set_cons_zero, List.set_cons_succ]
          refine wpAnyH_take (i := 22) (v := ?_) rfl (by kernel_rfl) (by kernel_rfl) (by kernel_rfl) (fun _ _ _ h => h) (Or.inl ⟨by kernel_rfl, ?_⟩) (by assumption) ?_
          rotate_left 1
          · (intro w hSw; (try dsimp only at hSw); go_simp; try with_reducible rfl)
          try simp only [Act.put, List.getElem_toArray, List.getElem_cons_succ, List.getElem_cons_zero, List.setIfInBounds_toArray, List.set_cons_zero, List.set_cons_succ]
          refine wpAnyH_take (i := 23) (v := ?_) rfl (by kernel_rfl) (by kernel_rfl) (by kernel_rfl) (fun _ _ _ h => h) (Or.inl ⟨by kernel_rfl, ?_⟩) (by assumption) ?_
          rotate_left 1
          · (intro w hSw; (try dsimp only at hSw); go_simp; try with_reducible rfl)
          try simp only [Act.put, List.getElem_toArray, List.getElem_cons_succ, List.getElem_cons_zero, List.setIfInBounds_toArray, List.set_cons_zero, List.set_cons_succ]
          refine wpAnyH_take (i := 24) (v := ?_) rfl (by kernel_rfl) (by kernel_rfl) (by kernel_rfl) (fun _ _ _ h => h) (Or.inl ⟨by kernel_rfl, ?_⟩) (by assumption) ?_
          rotate_left 1
          · (intro w hSw; (try dsimp only at hSw); go_simp; try with_reducible rfl)
          try simp only [Act.put, List.getElem_toArray, List.getElem_cons_succ, List.getElem_cons_zero, List.setIfInBounds_toArray, List.set_cons_zero, List.set_cons_succ]
          refine wpAnyH_take (i := 25) (v := ?_) rfl (by kernel_rfl) (by kernel_rfl) (by kernel_rfl) (fun _ _ _ h => h) (Or.inl ⟨by kernel_rfl, ?_⟩) (by assumption) ?_
          rotate_left 1
          · (intro w hSw; (try dsimp only at hSw); go_simp; try with_reducible rfl)
          try simp only [Act.put, List.getElem_toArray, List.getElem_cons_succ, List.getElem_cons_zero, List.setIfInBounds_toArray, List.set_cons_zero, List.set_cons_succ]
          refine wpAnyH_take (i := 27) (v := ?_) rfl (by kernel_rfl) (by kernel_rfl) (by kernel_rfl) (fun _ _ _ h => h) (Or.inl ⟨by kernel_rfl, ?_⟩) (by assumption) ?_
          rotate_left 1
          · (intro w hSw; (try dsimp only at hSw); go_simp; try with_reducible rfl)
          try simp only [Act.put, List.getElem_toArray, List.getElem_cons_succ, List.getElem_cons_zero, List.setIfInBounds_toArray, List.set_cons_zero, List.set_cons_succ]
          refine wpAnyH_take (i := 28) (v := ?_) rfl (by kernel_rfl) (by kernel_rfl) (by kernel_rfl) (fun _ _ _ h => h) (Or.inl ⟨by kernel_rfl, ?_⟩) (by assumption) ?_
          rotate_left 1
          · (intro w hSw; (try dsimp only at hSw); go_simp; try with_reducible rfl)
          try simp only [Act.put, List.getElem_toArray, List.getElem_cons_succ, List.getElem_cons_zero, List.setIfInBounds_toArray, List.set_cons_zero, List.set_cons_succ]
          refine wpAnyH_take (i := 29) (v := ?_) rfl (by kernel_rfl) (by kernel_rfl) (by kernel_rfl) (fun _ _ _ h => h) (Or.inl ⟨by kernel_rfl, ?_⟩) (by assumption) ?_
          rotate_left 1
          · (intro w hSw; (try dsimp only at hSw); go_simp; try with_reducible rfl)
          try simp only [Act.put, List.getElem_toArray, List.getElem_cons_succ, List.getElem_cons_zero, List.setIfInBounds_toArray, List.set_cons_zero, List.set_cons_succ]
          refine wpAnyH_take (i := 30) (v := ?_) rfl (by kernel_rfl) (by kernel_rfl) (by kernel_rfl) (fun _ _ _ h => h) (Or.inl ⟨by kernel_rfl, ?_⟩) (by assumption) ?_
          rotate_left 1
          · (intro w hSw; (try dsimp only at hSw); go_simp; try with_reducible rfl)
          try simp only [Act.put, List.getElem_toArray, List.getElem_cons_succ, List.getElem_cons_zero, List.setIfInBounds_toArray, List.set_cons_zero, List.set_cons_succ]
          refine wpAnyH_ready (rs := [26]) (by kernel_rfl) (by simp) ?_
          refine AllReadyH.cons rfl (fun K hK => ?_) AllReadyH.nil
          go_simp
          refine (out_any S g node tick m.ver qs n port _ (HA11.out.below hHeld.2.2.2) hn (by omega) (by omega)).mono ?_; rw [HO1.out]; rintro e v26 ⟨rfl, hbv⟩; have HV26 := Lib.hid (Bt hHeld.2.2.2 hbv); clear hbv; dsimp only
          refine hK.out _ _ (⟨blk_range (HD11.out.later HV26.out), blk_range (HC11.out.later HV26.out), (HV26.out.cell (p := ⟨W.heap.size, 71, none⟩) hG11).trans HP11.out, HV26.out⟩) (fun hHeld => ?_)
          clear hK K
          try simp only [Act.put, List.getElem_toArray, List.getElem_cons_succ, List.getElem_cons_zero, List.setIfInBounds_toArray, List.set_cons_zero, List.set_cons_succ]
          refine wpAnyH_ready (rs := [31]) (by kernel_rfl) (by simp) ?_
          refine AllReadyH.cons rfl (fun K hK => ?_) AllReadyH.nil
          go_simp
          refine (rout_any T h node tick has m n port _ (HR11.out.below hHeld.2.2.2) z0).mono ?_; rw [HO2.out]; rintro e v31 ⟨rfl, hbv⟩; have HV31 := Lib.hid (Bt hHeld.2.2.2 hbv); clear hbv; dsimp only
          refine hK.out _ _ (⟨blk_range (HD11.out.later HV31.out), blk_range (HC11.out.later HV31.out), (HV31.out.cell (p := ⟨W.heap.size, 71, none⟩) hG11).trans HP11.out, HV31.out⟩) (fun hHeld => ?_)
          clear hK K
          try simp only [Act.put, List.getElem_toArray, List.getElem_cons_succ, List.getElem_cons_zero, List.setIfInBounds_toArray, List.set_cons_zero, List.set_cons_succ]
          refine wpAnyH_take (i := 32) (v := ?_) rfl (by kernel_rfl) (by kernel_rfl) (by kernel_rfl) (fun _ _ _ h => h) (Or.inl ⟨by kernel_rfl, ?_⟩) (by assumption) ?_
          rotate_left 1
          · (intro w hSw; (try dsimp only at hSw); go_simp; try with_reducible rfl)
          try simp only [Act.put, List.getElem_toArray, List.getElem_cons_succ, List.getElem_cons_zero, List.setIfInBounds_toArray, List.set_cons_zero, List.set_cons_succ]
          refine wpAnyH_take (i := 33) (v := ?_) rfl (by kernel_rfl) (by kernel_rfl) (by kernel_rfl) (fun _ _ _ h => h) (Or.inl ⟨by kernel_rfl, ?_⟩) (by assumption) ?_
          rotate_left 1
          · (intro w hSw; (try dsimp only at hSw); go_simp; try with_reducible rfl)
          try simp only [Act.put, List.getElem_toArray, List.getElem_cons_succ, List.getElem_cons_zero, List.setIfInBounds_toArray, List.set_cons_zero, List.set_cons_succ]
          refine wpAnyH_done (by kernel_rfl) ?_ _
          have HA31 := Lib.hid (HA11.out.below HV31.out)
          have HR31 := Lib.hid (HR11.out.below HV31.out)
          have HD31 := Lib.hid (HD11.out.later HV31.out)
          have HC31 := Lib.hid (HC11.out.later HV31.out)
          go_wp2_with (first | (refine step_load big_key (by first | rfl | simp [Region.wanted, yielded]) (.tmp 14) rfl w8.heap.size 0 rfl (bts kk) HLKK.out (blk_range HD31.out) ?_) | fail)
          refine (key_any S g node tick m.ver qs kk v31 HA31.out hn HND.out HKL.out HKB2.out).mono ?_
          have hlk := map_px (lk_key HL.out tick kk)
          obtain ⟨x2, hx⟩ : ∃ x, x = ((pkN tick qs (nodeK qs kk)).getD zPe).nd := ⟨_, rfl⟩
          obtain ⟨b2, hbq⟩ : ∃ b, b = (pkN tick qs (nodeK qs kk)).isSome := ⟨_, rfl⟩
          have HX3 := Lib.hid (show ((kyP tick m.ps kk).getD zPe).nd = x2 by rw [hx]; exact (congrArg Px.nd hlk.2).symm)
          have HBB3 := Lib.hid (show (kyP tick m.ps kk).isSome = b2 by rw [hbq]; exact hlk.1.symm)
          unfold KeyDid
          rw [← hx, ← hbq]
          rintro e w32 ⟨rfl, hb32⟩
          have HB32 := Lib.hid hb32
          have HC32 := Lib.hid (HC31.out.later hb32)
          clear hb32 hx hbq hlk
          go_wp2_with (first | (refine step_load big_key (by first | rfl | simp [Region.wanted, yielded]) (.tmp 16) rfl w10.heap.size 0 rfl (bts kk) HLKK.out (blk_range HC32.out) ?_) | fail)
          refine (rkey_any T h node tick has m kk w32 (HR31.out.below HB32.out) z0 HKL.out).mono ?_
          unfold KeyDid
          rw [HX3.out, HBB3.out]
          rintro e w33 ⟨rfl, hb33⟩
          have HB33 := Lib.hid (show Below wv.heap.size wv w33 from Bt (Bt HBN.out HB11.out) (Bt (Bt HV31.out HB32.out) hb33))
          clear hb33
          go_wp2_with fail
          go_roundw
          case rel => exact ⟨n + 1, by omega, by omega, by go_num, HB33.out⟩
          case measure => simp [intOf]; omega
        · have hn9' : decide (n ≤ 9) = false := decide_eq_false hn9
          go_wp2_with fail
          go_ret
          exact ⟨rfl, Bt HB.out HBN.out⟩
end Go.Proofs.Ytgmndppjdnpejaa
