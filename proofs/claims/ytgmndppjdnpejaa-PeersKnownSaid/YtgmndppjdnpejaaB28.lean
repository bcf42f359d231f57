/- The chapter's netmap, block by block; netmaps that are the chapter's but for a number. -/
import Derived.Test.YtgmndppjdnpejaaB27
namespace Go.Proofs.Ytgmndppjdnpejaa
open Go.RowKit
set_option maxRecDepth 20000
set_option linter.unusedVariables false
set_option linter.unusedSimpArgs false

def pN (nd hi : Int) (gs : Nat) : Pe := ⟨nd, k2, 60, none, 0, [], some ⟨gs, 0, none⟩, 1, [⟨80, hi⟩]⟩
def netC (ver node ex nd hi : Int) (gs gp : Nat) : Nm := ⟨ver, 0, node, k1, ex, some ⟨gp, 0, none⟩, 1, [pN nd hi gs]⟩
theorem chap_net (v : Int) (gs gp : Nat) : chap v gs gp = netC v 1 50 2 90 gs gp := rfl
theorem net_at {w : World} {S : Nat → Prop} {gs gp : Nat} {ver node ex nd hi : Int} (h1 : Blk w gs 45 #[.int .i64 80, .int .i64 hi]) (h2 : Blk w gp 43 (pN nd hi gs).L.toArray) (s1 : S gs) (s2 : S gp) : NmAt w S (netC ver node ex nd hi gs gp) := by
  refine ⟨k1_len, k1_byt, ?_, fun p hp => ?_⟩
  · refine ⟨by rw [show (netC ver node ex nd hi gs gp).ps = [pN nd hi gs] from rfl]; simp [rowP, Pe.len (p := pN nd hi gs) k2_len], _, _, rfl, Nat.le_refl _, by show 1 ≤ maxLen; unfold maxLen; omega, fun _ => ⟨gp, 0, rfl, s2, fun j u hu => ?_⟩⟩
    rw [Nat.zero_add, h2.cell j]
    simpa [rowP, netC] using hu
  · have hp' : p = pN nd hi gs := by simpa [netC] using hp
    subst hp'
    refine ⟨k2_len, k2_byt, Rd.nil _ _ _, rfl, _, _, rfl, Nat.le_refl _, by show 1 ≤ maxLen; unfold maxLen; omega, fun _ => ⟨gs, 0, rfl, s1, fun j u hu => ?_⟩⟩
    rw [Nat.zero_add, h1.cell j]
    have hu' : ([.int .i64 80, .int .i64 hi] : List Value)[j]? = some u := hu
    simpa using hu'
def ChapBlk (v : Int) (w : World) (e : Ending) (w' : World) : Prop :=
  ∃ gs gp, e = .returned (chap v gs gp).v ∧ w.heap.size ≤ gs ∧ gs < gp ∧ Blk w' gs 45 #[.int .i64 80, .int .i64 90] ∧ Blk w' gp 43 (pN 2 90 gs).L.toArray ∧ Below w.heap.size w w'
set_option maxHeartbeats 600000 in
theorem chap_blk (v : Int) (W : World) : Calls Try.prog 30 #[.int .i64 v] W (ChapBlk v W) := by
  obtain ⟨w1, hw1⟩ : ∃ u, u = W.alloc (.cells zNm.L.toArray 34) := ⟨_, rfl⟩
  have HR := Lib.hid (show Blk w1 W.heap.size 34 zNm.L.toArray by rw [hw1]; exact Blk.new _ _ _)
  have HB1 := Lib.hid (show Below W.heap.size W w1 by rw [hw1]; exact Ba (B0 W) _)
  have HW1 := Lib.hid hw1
  obtain ⟨K1, hK1⟩ : ∃ K, K = bts k1 := ⟨_, rfl⟩
  obtain ⟨K2, hK2⟩ : ∃ K, K = bts k2 := ⟨_, rfl⟩
  obtain ⟨P2, hP2⟩ : ∃ K, K = (p2 w1.heap.size).L := ⟨_, rfl⟩
  obtain ⟨CH, hCH⟩ : ∃ K, K = (chap v w1.heap.size (w1.heap.size + 1)).L := ⟨_, rfl⟩
  have HBK1 := Lib.hid (show ∀ w, (Instr.build 31 ([(0, .int .u8 1)] : List (Nat × Value)).toArray).run Try.prog w = .ok (.agg K1.toArray) w by rw [hK1]; exact build_k1)
  have HBK2 := Lib.hid (show ∀ w, (Instr.build 31 ([(0, .int .u8 2)] : List (Nat × Value)).toArray).run Try.prog w = .ok (.agg K2.toArray) w by rw [hK2]; exact build_k2)
  have HBP2 := Lib.hid (show ∀ w, (Instr.build 43 ([(0, .int .i64 2), (1, .agg K2.toArray), (2, .int .i64 60), (4, .slice (some ⟨w1.heap.size, 0, none⟩) 1 1)] : List (Nat × Value)).toArray).run Try.prog w = .ok (.agg P2.toArray) w by rw [hK2, hP2]; exact build_p2 _)
  have HBCH := Lib.hid (show ∀ w, (Instr.build 34 ([(0, .int .i64 v), (2, .int .i64 1), (3, .agg K1.toArray), (4, .int .i64 50), (5, .slice (some ⟨w1.heap.size + 1, 0, none⟩) 1 1)] : List (Nat × Value)).toArray).run Try.prog w = .ok (.agg CH.toArray) w by rw [hK1, hCH]; exact build_chap v _ _)
  have HP2 := Lib.hid (show P2.length = 36 by rw [hP2]; exact Pe.len k2_len)
  have HLC := Lib.hid (show CH.length = 37 by rw [hCH]; exact Nm.len k1_len)
  have HLZ := Lib.hid (show zNm.L.length = 37 from Nm.len z32_len)
  have HC1 := Lib.hid (show ∀ u ∈ CH, u.oneCell' = true by rw [hCH]; exact Nm.one _)
  have HPQ := Lib.hid hP2
  have HCQ := Lib.hid hCH
  clear hK1 hK2 hP2 hCH
  clear hw1
  go_enter Try.func30, Try.ntmps30
  go_upto_region 1 with fail
  change Code.wp _ _ _ _ (W.alloc (.cells zNm.L.toArray 34))
  rw [← HW1.out]
  go_wp2_with (first | (refine step_build (t := 31) rfl _ rfl [(0, .int .u8 1)] rfl K1.toArray (HBK1.out _) ?_) | (refine step_build (t := 31) rfl _ rfl [(0, .int .u8 2)] rfl K2.toArray (HBK2.out _) ?_) | (refine step_build (t := 43) rfl _ rfl [(0, .int .i64 2), (1, .agg K2.toArray), (2, .int .i64 60), (4, .slice (some ⟨w1.heap.size, 0, none⟩) 1 1)] rfl P2.toArray (HBP2.out _) ?_) | (refine step_rows (t := 32) Try.underlying32 size_peer _ zero_peer (by omega) (by omega) rfl _ rfl [P2] rfl (by intro x hx; rw [List.mem_singleton] at hx; rw [hx]; exact HP2.out) rfl P2 (by simp) ?_) | (refine step_build (t := 34) rfl _ rfl [(0, .int .i64 v), (2, .int .i64 1), (3, .agg K1.toArray), (4, .int .i64 50), (5, .slice (some ⟨w1.heap.size + 1, 0, none⟩) 1 1)] (by first | rfl | simp [Act.eval, Act.put]) CH.toArray (HBCH.out _) ?_) | (refine step_store big_map rfl (.tmp 2) (.tmp 10) rfl W.heap.size rfl CH HLC.out HC1.out rfl 34 _ ((HR.out.alloc _).alloc _) (by simp [HLZ.out]) ?_; intro w4 hb4 hm4 hs4; have HF := Lib.hid hb4; have HM4 := Lib.hid hm4; clear hb4 hm4 hs4) | fail)
  have hw := HB1.out.size
  have hlt := HR.out.lt
  refine bodyPost_ret (v := .agg CH.toArray) (by simp [results, Try.results30, asAddr, Act.put, load_big big_map HF.out HLC.out]) rfl ?_
  have hBel : Below W.heap.size W w4 := Bm (Ba (Ba HB1.out _) _) HM4.out (fun i hi => by omega)
  refine ⟨w1.heap.size, w1.heap.size + 1, by rw [HCQ.out], hw, by omega, ?_, ?_, hBel⟩
  · exact ((Blk.new w1 45 #[.int .i64 80, .int .i64 90]).alloc _).kept HM4.out (fun e => by omega)
  · have b : Blk ((w1.alloc (.cells #[.int .i64 80, .int .i64 90] 45)).alloc (.cells P2.toArray 43)) (w1.heap.size + 1) 43 P2.toArray := Blk.new1 w1 _ _ _
    have h := b.kept HM4.out (fun e => by omega)
    rw [HPQ.out] at h
    exact h
/-- The one peer of a table. -/
structure Is (q : Pe) (nd : Int) : Prop where
  nd : q.nd = nd
  ks : q.ks = k2
  ex : q.ex = 60
  ins : q.ins = []
  outs : q.outs = [⟨80, 90⟩]
theorem is_of {q : Pe} {nd : Int} {gs : Nat} (h : q.px = (pN nd 90 gs).px) : Is q nd := ⟨congrArg Px.nd h, congrArg Px.ks h, congrArg Px.ex h, congrArg Px.ins h, congrArg Px.outs h⟩
theorem Is.two {q : Pe} (h : Is q 2) : Two q := ⟨h.nd, h.ks, h.ex, h.ins, h.outs⟩
theorem is_pk {q : Pe} {nd : Int} (h : Is q nd) (n : Int) : pkN 0 [q] n = if n = nd then some q else none := by
  unfold pkN lkN
  rw [List.reverse_singleton, List.find?_cons, List.find?_nil, h.nd]
  by_cases hn : n = nd
  · subst hn
    rw [show (n == n) = true by simp]
    simp only [Option.filter_some, h.ex]
    rfl
  · rw [show (nd == n) = false by simp; omega]
    rw [if_neg hn]
    rfl
theorem is_list8 {q : Pe} (h : Is q 8) : listN 0 [q] 8 = [8] := by simp [listN, is_pk h]
theorem one_of {qs : List Pe} {nd : Int} {gs : Nat} (h : qs.map Pe.px = [pN nd 90 gs].map Pe.px) : ∃ q, qs = [q] ∧ Is q nd := by
  rcases qs with _ | ⟨q, _ | ⟨r, l⟩⟩
  · simp at h
  · exact ⟨q, rfl, is_of (by simpa using h)⟩
  · simp at h
/-- Set of a netmap that is the chapter's but for a number. -/
theorem setC_ok (S : Nat → Prop) (g : Nat) (node tick ver0 : Int) (ps0 : List Pe) (M : Nm) (v ex nd : Int) (gs gp : Nat) (W : World) (hM : M = netC v node ex nd 90 gs gp) (hs : Blk W gs 45 #[.int .i64 80, .int .i64 90]) (hp : Blk W gp 43 (pN nd 90 gs).L.toArray) (h : TbAt W S g node tick ver0 ps0) (hn : 1 ≤ node)
    (h1 : nmB M = true) (h3 : ver0 ≤ v) : Calls Try.prog 13 #[.pointer (some ⟨g, 0, none⟩), M.v] W fun e w' => e = .returned (.int .i64 0) ∧ ∃ S' q, TbAt w' S' g node tick v [q] ∧ Is q nd ∧ Mod (fun i => i = g) W w' ∧ ∀ i, S' i → i = g ∨ W.heap.size ≤ i := by
  subst hM
  have hb : ∃ mk mn, Blk W g 71 (tbCs node tick ver0 mk mn) := by
    obtain ⟨_, _, mk, mn, hb, _⟩ := h
    exact ⟨mk, mn, hb⟩
  obtain ⟨mk, mn, hb⟩ := hb
  have e1 : gs ≠ g := hs.ne_ hb (by decide)
  have e2 : gp ≠ g := hp.ne_ hb (by decide)
  have hnm : NmAt W (fun i => i = gs ∨ i = gp) (netC v node ex nd 90 gs gp) := net_at hs hp (.inl rfl) (.inr rfl)
  refine (set_ok _ S _ g node tick ver0 ps0 W hnm (fun i hi => ?_) h hn h1 rfl h3).mono ?_
  · rcases hi with rfl | rfl
    · exact ⟨hs.lt, e1⟩
    · exact ⟨hp.lt, e2⟩
  · rintro e w' ⟨qs, rfl, ht, hpx, hm⟩
    obtain ⟨q, rfl, hq⟩ := one_of (nd := nd) (gs := gs) hpx
    exact ⟨rfl, _, q, ht, hq, hm, fun i hi => hi.imp id (fun x => x.1)⟩
theorem setC_no (S : Nat → Prop) (g : Nat) (node tick ver0 : Int) (ps0 : List Pe) (M : Nm) (v n' ex nd : Int) (gs gp : Nat) (W : World) (E : Int) (hM : M = netC v n' ex nd 90 gs gp) (hs : Blk W gs 45 #[.int .i64 80, .int .i64 90]) (hp : Blk W gp 43 (pN nd 90 gs).L.toArray) (h : TbAt W S g node tick ver0 ps0) (hn : 1 ≤ node)
    (hE : setE M node ver0 = E) (h0 : E ≠ 0) : Calls Try.prog 13 #[.pointer (some ⟨g, 0, none⟩), M.v] W fun e w' => e = .returned (.int .i64 E) ∧ Below W.heap.size W w' := by
  subst hM
  have hnm : NmAt W (fun i => i = gs ∨ i = gp) (netC v n' ex nd 90 gs gp) := net_at hs hp (.inl rfl) (.inr rfl)
  have := set_no _ S _ g node tick ver0 ps0 W hnm (fun i hi => by rcases hi with rfl | rfl; exact hs.lt; exact hp.lt) h hn (by rw [hE]; exact h0)
  rwa [hE] at this
theorem out_is (S : Nat → Prop) (g : Nat) (node ver : Int) (q : Pe) (nd n port : Int) (b : Bool) (W : World) (h : TbAt W S g node 0 ver [q]) (hn : 1 ≤ node) (hq : Is q nd) (h0 : -9223372036854775808 ≤ n) (h1 : n ≤ 9223372036854775807) (hb : (decide (n = nd) && (decide (80 ≤ port) && decide (port ≤ 90))) = b) :
    Calls Try.prog 27 #[.pointer (some ⟨g, 0, none⟩), .int .i64 n, .int .i64 port] W fun e w' => e = .returned (.bool b) ∧ Below W.heap.size W w' := by
  have := out_any S g node 0 ver [q] n port W h hn h0 h1
  rw [is_pk hq] at this
  have e : wiB ((if n = nd then some q else none : Option Pe).getD zPe).outs port = b := by
    rw [← hb]
    by_cases hx : n = nd
    · rw [if_pos hx, decide_eq_true hx]
      show wiB q.outs port = _
      rw [hq.outs]
      simp [wiB]
    · rw [if_neg hx, decide_eq_false hx]
      rfl
  rwa [e] at this
theorem key_is (S : Nat → Prop) (g : Nat) (node ver : Int) (q : Pe) (ks : List Int) (W : World) (h : TbAt W S g node 0 ver [q]) (hn : 1 ≤ node) (hq : Is q 2) (hk : ks.length = 32) (hkb : Byt ks) (hne : k2 ≠ ks) :
    Calls Try.prog 24 #[.pointer (some ⟨g, 0, none⟩), .agg (bts ks).toArray] W fun e w' => e = .returned (.tuple #[.int .i64 0, .bool false]) ∧ Below W.heap.size W w' := by
  have := key_any S g node 0 ver [q] ks W h hn (by intro p hp; rw [List.mem_singleton] at hp; rw [hp, hq.nd]; omega) hk hkb
  have e : nodeK [q] ks = 0 := by
    unfold nodeK lkK
    rw [List.reverse_singleton, List.find?_cons, List.find?_nil, hq.ks]
    rw [show (k2 == ks) = false by simpa using hne]
    rfl
  rw [e, is_pk hq, if_neg (by omega)] at this
  exact this
def emC : Nm := ⟨4, 0, 1, z32, 0, none, 0, []⟩
theorem emC_ok : nmB emC = true := by rfl
theorem emC_at (w : World) : NmAt w (fun _ => False) emC := ⟨z32_len, z32_byt, Rd.nil _ _ _, fun p hp => absurd hp (by simp [emC])⟩
theorem build_em (w : World) : (Instr.build 34 ([(0, .int .i64 4), (2, .int .i64 1)] : List (Nat × Value)).toArray).run Try.prog w = .ok (.agg emC.L.toArray) w :=
  run_build under_map zero_map places_map (by kernel_rfl) w
theorem setM_ok (S : Nat → Prop) (g : Nat) (tick ver0 : Int) (ps0 : List Pe) (W : World) (h : TbAt W S g 1 tick ver0 ps0) (h3 : ver0 ≤ 4) : Calls Try.prog 13 #[.pointer (some ⟨g, 0, none⟩), emC.v] W fun e w' => e = .returned (.int .i64 0) ∧ ∃ S', TbAt w' S' g 1 tick 4 [] ∧ Mod (fun i => i = g) W w' ∧ ∀ i, S' i → i = g ∨ W.heap.size ≤ i := by
  refine (set_ok _ S _ g 1 tick ver0 ps0 W (emC_at W) (fun i hi => hi.elim) h (by omega) emC_ok rfl h3).mono ?_
  rintro e w' ⟨qs, rfl, ht, hpx, hm⟩
  have hq : qs = [] := by simpa [emC] using hpx
  subst hq
  exact ⟨rfl, _, ht, hm, fun i hi => hi.imp id (fun x => x.1)⟩
theorem netC_ok (gs gp : Nat) {v node nd : Int} (h0 : nuB v = true) (h : mayB ⟨0, node, k1, 50⟩ [pN nd 90 0] = true) : nmB (netC v node 50 nd 90 gs gp) = true := by
  unfold nmB
  rw [show nuB (netC v node 50 nd 90 gs gp).ver = true from h0, Bool.true_and]
  exact h
end Go.Proofs.Ytgmndppjdnpejaa
