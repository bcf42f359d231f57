/- The chapter's examples, both ends, tables that are none: PeersKnown. -/
import Derived.Test.YtgmndppjdnpejaaB28
namespace Go.Proofs.Ytgmndppjdnpejaa
open Go.RowKit
set_option maxRecDepth 20000
set_option linter.unusedVariables false
set_option linter.unusedSimpArgs false

theorem build_k0' (w : World) : (Instr.build 31 ([] : List (Nat × Value)).toArray).run Try.prog w = .ok (.agg (bts z32).toArray) w := by kernel_rfl
set_option maxHeartbeats 8000000 in
theorem peersKnown_at (W : World) : Calls Try.prog 9 #[] W fun e w' => e = .returned (.bool true) ∧ Below W.heap.size W w' := by
  obtain ⟨K0, hK0⟩ : ∃ K, K = bts z32 := ⟨_, rfl⟩
  obtain ⟨K1, hK1⟩ : ∃ K, K = bts k1 := ⟨_, rfl⟩
  have HBK0 := Lib.hid (show ∀ w, (Instr.build 31 ([] : List (Nat × Value)).toArray).run Try.prog w = .ok (.agg K0.toArray) w by rw [hK0]; exact build_k0')
  have HBK1 := Lib.hid (show ∀ w, (Instr.build 31 ([(0, .int .u8 1)] : List (Nat × Value)).toArray).run Try.prog w = .ok (.agg K1.toArray) w by rw [hK1]; exact build_k1)
  have HK0 := Lib.hid hK0
  have HK1 := Lib.hid hK1
  obtain ⟨EM, hEM⟩ : ∃ K, K = emC := ⟨_, rfl⟩
  have HBE := Lib.hid (show ∀ w, (Instr.build 34 ([(0, .int .i64 4), (2, .int .i64 1)] : List (Nat × Value)).toArray).run Try.prog w = .ok (.agg EM.L.toArray) w by rw [hEM]; exact build_em)
  have HEM := Lib.hid hEM
  clear hK0 hK1 hEM
  go_enter Try.func9, Try.ntmps9
  go_wp2_with fail
  refine (new_bad 0 W rfl).mono ?_
  rintro e w' ⟨rfl, rfl⟩
  go_wp2_with fail
  refine (new_bad 9 W rfl).mono ?_
  rintro e w' ⟨rfl, rfl⟩
  go_wp2_with fail
  refine (new_ok 8 W rfl).mono ?_
  rintro e w1 ⟨gA, rfl, ht, hgW, hb⟩
  have GA := Lib.hid (show W.heap.size ≤ gA from Nat.le_trans (Nat.le_refl _) hgW)
  have HB := Lib.hid hb
  obtain ⟨STA, HTA⟩ : ∃ S, Hid (TbAt w1 S gA 8 0 0 []) := ⟨_, Lib.hid ht⟩
  clear ht hgW hb
  go_wp2_with fail
  refine (chap_blk 3 w1).mono ?_
  rintro e w2 ⟨sa, pa, rfl, hs0, hsp, hs, hp, hb⟩
  obtain ⟨Ma, hM⟩ : ∃ M, M = netC 3 1 50 2 90 sa pa := ⟨_, rfl⟩
  rw [chap_net, ← hM]
  have HMa := Lib.hid hM
  have Ka := Lib.hid (show W.heap.size ≤ sa from Nat.le_trans HB.out.size hs0)
  have Ja := Lib.hid hsp
  have FHTAa := Lib.hid (show ∀ i, STA i → i < sa from fun i hi => Nat.lt_of_lt_of_le (HTA.out.lts i hi) hs0)
  replace HB := Lib.hid (Bt HB.out hb)
  replace HTA := Lib.hid (HTA.out.below hb)
  have HSa := Lib.hid hs
  have HPa := Lib.hid hp
  clear hs hp hb hM hs0 hsp
  have HLa := Lib.hid (show Ma.L.length = 37 by rw [HMa.out]; exact Nm.len k1_len)
  have HOa := Lib.hid (show ∀ u ∈ Ma.L, u.oneCell' = true by rw [HMa.out]; exact Nm.one _)
  go_wp2_with (first | (refine step_store big_map rfl (.tmp 7) (.tmp 42) rfl w2.heap.size rfl Ma.L HLa.out HOa.out rfl 34 _ (Blk.new w2 34 _) rfl ?_; intro w3 hb3 hm3 hs3; have HGa := Lib.hid hb3; have HM3 := Lib.hid hm3; have x := (hb3.cell 2).trans (show Ma.L.toArray[2]? = some (.int .i64 1) by rw [HMa.out]; rfl); have fx := hb3.frozen 2; have lx := hb3.lt; clear hb3 hm3 hs3) | fail)
  obtain ⟨w4, hw4⟩ : ∃ u, u = w3.setCell ⟨w2.heap.size, 2, none⟩ (.int .i64 3) := ⟨_, rfl⟩
  rw [← hw4]
  have hb : Below w2.heap.size w2 w4 := by rw [hw4]; exact Mod.below (S := fun i => i = w2.heap.size) ((((Mod.refl _ _).alloc _).trans HM3.out (fun i hi => .inl hi)).setCell (p := ⟨w2.heap.size, 2, none⟩) (.inl rfl) _) (Nat.le_refl _) (fun i hi => by omega)
  obtain ⟨Na, hN⟩ : ∃ M, M = netC 3 3 50 2 90 sa pa := ⟨_, rfl⟩
  replace HGa := Lib.hid (show Blk w4 w2.heap.size 34 Na.L.toArray by rw [hw4, show Na.L.toArray = Ma.L.toArray.setIfInBounds 2 (.int .i64 3) by rw [hN, HMa.out]; rfl]; exact HGa.out.set_ 2 _)
  have HNa := Lib.hid hN
  clear hw4 hN x fx lx HM3
  replace HB := Lib.hid (Bt HB.out hb)
  replace HTA := Lib.hid (HTA.out.below hb)
  replace HSa := Lib.hid (HSa.out.later hb)
  replace HPa := Lib.hid (HPa.out.later hb)
  clear hb
  refine (chap_blk 3 w4).mono ?_
  rintro e w5 ⟨sb, pb, rfl, hs0, hsp, hs, hp, hb⟩
  obtain ⟨Mb, hM⟩ : ∃ M, M = netC 3 1 50 2 90 sb pb := ⟨_, rfl⟩
  rw [chap_net, ← hM]
  have HMb := Lib.hid hM
  have Kb := Lib.hid (show W.heap.size ≤ sb from Nat.le_trans HB.out.size hs0)
  have Jb := Lib.hid hsp
  have FHTAb := Lib.hid (show ∀ i, STA i → i < sb from fun i hi => Nat.lt_of_lt_of_le (HTA.out.lts i hi) hs0)
  replace HB := Lib.hid (Bt HB.out hb)
  replace HTA := Lib.hid (HTA.out.below hb)
  replace HSa := Lib.hid (HSa.out.later hb)
  replace HPa := Lib.hid (HPa.out.later hb)
  replace HGa := Lib.hid (HGa.out.later hb)
  have HSb := Lib.hid hs
  have HPb := Lib.hid hp
  clear hs hp hb hM hs0 hsp
  have HLb := Lib.hid (show Mb.L.length = 37 by rw [HMb.out]; exact Nm.len k1_len)
  have HOb := Lib.hid (show ∀ u ∈ Mb.L, u.oneCell' = true by rw [HMb.out]; exact Nm.one _)
  go_wp2_with (first | (refine step_store big_map rfl (.tmp 8) (.tmp 44) rfl w5.heap.size rfl Mb.L HLb.out HOb.out rfl 34 _ (Blk.new w5 34 _) rfl ?_; intro w6 hb3 hm3 hs3; have HGb := Lib.hid hb3; have HM3 := Lib.hid hm3; have x := (hb3.cell 35).trans (show Mb.L.toArray[35]? = some (.int .i64 50) by rw [HMb.out]; rfl); have fx := hb3.frozen 35; have lx := hb3.lt; clear hb3 hm3 hs3) | fail)
  obtain ⟨w7, hw4⟩ : ∃ u, u = w6.setCell ⟨w5.heap.size, 35, none⟩ (.int .i64 0) := ⟨_, rfl⟩
  rw [← hw4]
  have hb : Below w5.heap.size w5 w7 := by rw [hw4]; exact Mod.below (S := fun i => i = w5.heap.size) ((((Mod.refl _ _).alloc _).trans HM3.out (fun i hi => .inl hi)).setCell (p := ⟨w5.heap.size, 35, none⟩) (.inl rfl) _) (Nat.le_refl _) (fun i hi => by omega)
  obtain ⟨Nb, hN⟩ : ∃ M, M = netC 3 1 0 2 90 sb pb := ⟨_, rfl⟩
  replace HGb := Lib.hid (show Blk w7 w5.heap.size 34 Nb.L.toArray by rw [hw4, show Nb.L.toArray = Mb.L.toArray.setIfInBounds 35 (.int .i64 0) by rw [hN, HMb.out]; rfl]; exact HGb.out.set_ 35 _)
  have HNb := Lib.hid hN
  clear hw4 hN x fx lx HM3
  replace HB := Lib.hid (Bt HB.out hb)
  replace HTA := Lib.hid (HTA.out.below hb)
  replace HSa := Lib.hid (HSa.out.later hb)
  replace HPa := Lib.hid (HPa.out.later hb)
  replace HGa := Lib.hid (HGa.out.later hb)
  replace HSb := Lib.hid (HSb.out.later hb)
  replace HPb := Lib.hid (HPb.out.later hb)
  clear hb
  refine (chap_blk 3 w7).mono ?_
  rintro e w8 ⟨sc, pc, rfl, hs0, hsp, hs, hp, hb⟩
  obtain ⟨Mc, hM⟩ : ∃ M, M = netC 3 1 50 2 90 sc pc := ⟨_, rfl⟩
  rw [chap_net, ← hM]
  have HMc := Lib.hid hM
  have Kc := Lib.hid (show W.heap.size ≤ sc from Nat.le_trans HB.out.size hs0)
  have Jc := Lib.hid hsp
  have FHTAc := Lib.hid (show ∀ i, STA i → i < sc from fun i hi => Nat.lt_of_lt_of_le (HTA.out.lts i hi) hs0)
  replace HB := Lib.hid (Bt HB.out hb)
  replace HTA := Lib.hid (HTA.out.below hb)
  replace HSa := Lib.hid (HSa.out.later hb)
  replace HPa := Lib.hid (HPa.out.later hb)
  replace HGa := Lib.hid (HGa.out.later hb)
  replace HSb := Lib.hid (HSb.out.later hb)
  replace HPb := Lib.hid (HPb.out.later hb)
  replace HGb := Lib.hid (HGb.out.later hb)
  have HSc := Lib.hid hs
  have HPc := Lib.hid hp
  clear hs hp hb hM hs0 hsp
  go_wp2_with fail
  refine (setC_no STA gA 8 0 0 [] Mc 3 1 50 2 sc pc w8 220 HMc.out HSc.out HPc.out HTA.out (by omega) (by rw [HMc.out]; rfl) (by omega)).mono ?_
  rintro e w9 ⟨rfl, hb⟩
  replace HB := Lib.hid (Bt HB.out hb)
  replace HTA := Lib.hid (HTA.out.below hb)
  replace HSa := Lib.hid (HSa.out.later hb)
  replace HPa := Lib.hid (HPa.out.later hb)
  replace HGa := Lib.hid (HGa.out.later hb)
  replace HSb := Lib.hid (HSb.out.later hb)
  replace HPb := Lib.hid (HPb.out.later hb)
  replace HGb := Lib.hid (HGb.out.later hb)
  replace HSc := Lib.hid (HSc.out.later hb)
  replace HPc := Lib.hid (HPc.out.later hb)
  clear hb
  clear HSc HPc HMc
  have HLN := Lib.hid (show Nb.L.length = 37 by rw [HNb.out]; exact Nm.len k1_len)
  go_wp2_with (first | ((refine step_load big_map (by first | rfl | simp [Region.wanted, yielded]) (.tmp 8) rfl (w5.heap.size) 0 rfl Nb.L HLN.out (blk_range HGb.out) ?_)) | fail)
  clear HLN
  refine (setC_no STA gA 8 0 0 [] Nb 3 1 0 2 sb pb w9 2 HNb.out HSb.out HPb.out HTA.out (by omega) (by rw [HNb.out]; rfl) (by omega)).mono ?_
  rintro e w10 ⟨rfl, hb⟩
  replace HB := Lib.hid (Bt HB.out hb)
  replace HTA := Lib.hid (HTA.out.below hb)
  replace HSa := Lib.hid (HSa.out.later hb)
  replace HPa := Lib.hid (HPa.out.later hb)
  replace HGa := Lib.hid (HGa.out.later hb)
  replace HSb := Lib.hid (HSb.out.later hb)
  replace HPb := Lib.hid (HPb.out.later hb)
  replace HGb := Lib.hid (HGb.out.later hb)
  clear hb
  clear HSb HPb HGb HMb HNb
  have XHGaA := Lib.hid (show w2.heap.size ≠ gA from fun e => by have := TbAt.lts HTA.out; obtain ⟨_, _, mk, mn, hb, _⟩ := HTA.out; exact (HGa.out.ne_ hb (by decide)) e)
  have XHSaA := Lib.hid (show sa ≠ gA from fun e => by obtain ⟨_, _, mk, mn, hb, _⟩ := HTA.out; exact (HSa.out.ne_ hb (by decide)) e)
  have XHPaA := Lib.hid (show pa ≠ gA from fun e => by obtain ⟨_, _, mk, mn, hb, _⟩ := HTA.out; exact (HPa.out.ne_ hb (by decide)) e)
  go_wp2_with fail
  refine (now_any STA gA 8 0 0 (-1) [] w10 HTA.out (by omega)).mono ?_
  rintro e w11 ⟨rfl, ht, hm⟩
  rw [show nowE 0 (-1) = 9 from rfl]
  replace HB := Lib.hid (Bm HB.out hm (fun i hi => by subst hi; exact GA.out))
  replace HSa := Lib.hid (HSa.out.kept hm (fun e => XHSaA.out e))
  replace HPa := Lib.hid (HPa.out.kept hm (fun e => XHPaA.out e))
  replace HGa := Lib.hid (HGa.out.kept hm (fun e => XHGaA.out e))
  replace HTA := Lib.hid (show TbAt w11 _ gA 8 0 0 [] from ht)
  clear ht hm
  go_wp2_with fail
  refine (now_any STA gA 8 0 0 9007199254740992 [] w11 HTA.out (by omega)).mono ?_
  rintro e w12 ⟨rfl, ht, hm⟩
  rw [show nowE 0 9007199254740992 = 9 from rfl]
  replace HB := Lib.hid (Bm HB.out hm (fun i hi => by subst hi; exact GA.out))
  replace HSa := Lib.hid (HSa.out.kept hm (fun e => XHSaA.out e))
  replace HPa := Lib.hid (HPa.out.kept hm (fun e => XHPaA.out e))
  replace HGa := Lib.hid (HGa.out.kept hm (fun e => XHGaA.out e))
  replace HTA := Lib.hid (show TbAt w12 _ gA 8 0 0 [] from ht)
  clear ht hm
  go_wp2_with fail
  refine (now_any STA gA 8 0 0 9007199254740991 [] w12 HTA.out (by omega)).mono ?_
  rintro e w13 ⟨rfl, ht, hm⟩
  rw [show nowE 0 9007199254740991 = 0 from rfl]
  replace HB := Lib.hid (Bm HB.out hm (fun i hi => by subst hi; exact GA.out))
  replace HSa := Lib.hid (HSa.out.kept hm (fun e => XHSaA.out e))
  replace HPa := Lib.hid (HPa.out.kept hm (fun e => XHPaA.out e))
  replace HGa := Lib.hid (HGa.out.kept hm (fun e => XHGaA.out e))
  replace HTA := Lib.hid (show TbAt w13 _ gA 8 9007199254740991 0 [] from ht)
  clear ht hm
  go_wp2_with fail
  refine (now_any STA gA 8 9007199254740991 0 9007199254740991 [] w13 HTA.out (by omega)).mono ?_
  rintro e w14 ⟨rfl, ht, hm⟩
  rw [show nowE 9007199254740991 9007199254740991 = 0 from rfl]
  replace HB := Lib.hid (Bm HB.out hm (fun i hi => by subst hi; exact GA.out))
  replace HSa := Lib.hid (HSa.out.kept hm (fun e => XHSaA.out e))
  replace HPa := Lib.hid (HPa.out.kept hm (fun e => XHPaA.out e))
  replace HGa := Lib.hid (HGa.out.kept hm (fun e => XHGaA.out e))
  replace HTA := Lib.hid (show TbAt w14 _ gA 8 9007199254740991 0 [] from ht)
  clear ht hm
  go_wp2_with fail
  refine (now_any STA gA 8 9007199254740991 0 0 [] w14 HTA.out (by omega)).mono ?_
  rintro e w15 ⟨rfl, ht, hm⟩
  rw [show nowE 9007199254740991 0 = 201 from rfl]
  replace HB := Lib.hid (Bm HB.out hm (fun i hi => by subst hi; exact GA.out))
  replace HSa := Lib.hid (HSa.out.kept hm (fun e => XHSaA.out e))
  replace HPa := Lib.hid (HPa.out.kept hm (fun e => XHPaA.out e))
  replace HGa := Lib.hid (HGa.out.kept hm (fun e => XHGaA.out e))
  replace HTA := Lib.hid (show TbAt w15 _ gA 8 9007199254740991 0 [] from ht)
  clear ht hm
  clear HTA XHGaA XHSaA XHPaA
  go_wp2_with fail
  refine (new_ok 1 w15 rfl).mono ?_
  rintro e w16 ⟨gU, rfl, ht, hgW, hb⟩
  have FHSaU := Lib.hid (Nat.ne_of_lt (Nat.lt_of_lt_of_le HSa.out.lt hgW))
  have FHPaU := Lib.hid (Nat.ne_of_lt (Nat.lt_of_lt_of_le HPa.out.lt hgW))
  have FHGaU := Lib.hid (Nat.ne_of_lt (Nat.lt_of_lt_of_le HGa.out.lt hgW))
  have GU := Lib.hid (show W.heap.size ≤ gU from Nat.le_trans HB.out.size hgW)
  replace HB := Lib.hid (Bt HB.out hb)
  replace HSa := Lib.hid (HSa.out.later hb)
  replace HPa := Lib.hid (HPa.out.later hb)
  replace HGa := Lib.hid (HGa.out.later hb)
  obtain ⟨STU, HTU⟩ : ∃ S, Hid (TbAt w16 S gU 1 0 0 []) := ⟨_, Lib.hid ht⟩
  clear ht hgW hb
  go_upto_region 10 with fail
  simp only [List.append_eq, List.cons_append, List.nil_append]
  have HLN := Lib.hid (show Na.L.length = 37 by rw [HNa.out]; exact Nm.len k1_len)
  go_wp2_with (first | ((refine step_load big_map (by first | rfl | simp [Region.wanted, yielded]) (.tmp 7) rfl (w2.heap.size) 0 rfl Na.L HLN.out (blk_range HGa.out) ?_)) | fail)
  clear HLN
  refine (setC_no STU gU 1 0 0 [] Na 3 3 50 2 sa pa w16 220 HNa.out HSa.out HPa.out HTU.out (by omega) (by rw [HNa.out]; rfl) (by omega)).mono ?_
  rintro e w17 ⟨rfl, hb⟩
  replace HB := Lib.hid (Bt HB.out hb)
  replace HTU := Lib.hid (HTU.out.below hb)
  replace HSa := Lib.hid (HSa.out.later hb)
  replace HPa := Lib.hid (HPa.out.later hb)
  replace HGa := Lib.hid (HGa.out.later hb)
  clear hb
  clear HSa HPa HGa HMa HNa FHSaU FHPaU FHGaU
  go_wp2_with fail
  refine (chap_blk 3 w17).mono ?_
  rintro e w18 ⟨sd, pd, rfl, hs0, hsp, hs, hp, hb⟩
  obtain ⟨Md, hM⟩ : ∃ M, M = netC 3 1 50 2 90 sd pd := ⟨_, rfl⟩
  rw [chap_net, ← hM]
  have HMd := Lib.hid hM
  have Kd := Lib.hid (show W.heap.size ≤ sd from Nat.le_trans HB.out.size hs0)
  have Jd := Lib.hid hsp
  have FHTUd := Lib.hid (show ∀ i, STU i → i < sd from fun i hi => Nat.lt_of_lt_of_le (HTU.out.lts i hi) hs0)
  replace HB := Lib.hid (Bt HB.out hb)
  replace HTU := Lib.hid (HTU.out.below hb)
  have HSd := Lib.hid hs
  have HPd := Lib.hid hp
  clear hs hp hb hM hs0 hsp
  go_wp2_with fail
  refine (setC_ok STU gU 1 0 0 [] Md 3 50 2 sd pd w18 HMd.out HSd.out HPd.out HTU.out (by omega) (by rw [HMd.out]; exact netC_ok _ _ rfl rfl) (by omega)).mono ?_
  rintro e w19 ⟨rfl, STU, q1, ht, hq, hm, hS2⟩
  replace HB := Lib.hid (Bm HB.out hm (fun i hi => by subst hi; exact GU.out))
  replace HTU := Lib.hid ht
  have HQq1 := Lib.hid hq
  clear ht hq hm hS2
  clear HSd HPd HMd
  go_wp2_with fail
  refine (chap_blk 3 w19).mono ?_
  rintro e w20 ⟨se, pe, rfl, hs0, hsp, hs, hp, hb⟩
  obtain ⟨Me, hM⟩ : ∃ M, M = netC 3 1 50 2 90 se pe := ⟨_, rfl⟩
  rw [chap_net, ← hM]
  have HMe := Lib.hid hM
  have Ke := Lib.hid (show W.heap.size ≤ se from Nat.le_trans HB.out.size hs0)
  have Je := Lib.hid hsp
  have FHTUe := Lib.hid (show ∀ i, STU i → i < se from fun i hi => Nat.lt_of_lt_of_le (HTU.out.lts i hi) hs0)
  replace HB := Lib.hid (Bt HB.out hb)
  replace HTU := Lib.hid (HTU.out.below hb)
  have HSe := Lib.hid hs
  have HPe := Lib.hid hp
  clear hs hp hb hM hs0 hsp
  go_wp2_with fail
  refine (setC_ok STU gU 1 0 3 [q1] Me 3 50 2 se pe w20 HMe.out HSe.out HPe.out HTU.out (by omega) (by rw [HMe.out]; exact netC_ok _ _ rfl rfl) (by omega)).mono ?_
  rintro e w21 ⟨rfl, STU, q2, ht, hq, hm, hS2⟩
  replace HB := Lib.hid (Bm HB.out hm (fun i hi => by subst hi; exact GU.out))
  replace HTU := Lib.hid ht
  have HQq2 := Lib.hid hq
  clear ht hq hm hS2
  clear HSe HPe HMe HQq1
  go_wp2_with fail
  refine (chap_blk 2 w21).mono ?_
  rintro e w22 ⟨sf, pf, rfl, hs0, hsp, hs, hp, hb⟩
  obtain ⟨Mf, hM⟩ : ∃ M, M = netC 2 1 50 2 90 sf pf := ⟨_, rfl⟩
  rw [chap_net, ← hM]
  have HMf := Lib.hid hM
  have Kf := Lib.hid (show W.heap.size ≤ sf from Nat.le_trans HB.out.size hs0)
  have Jf := Lib.hid hsp
  have FHTUf := Lib.hid (show ∀ i, STU i → i < sf from fun i hi => Nat.lt_of_lt_of_le (HTU.out.lts i hi) hs0)
  replace HB := Lib.hid (Bt HB.out hb)
  replace HTU := Lib.hid (HTU.out.below hb)
  have HSf := Lib.hid hs
  have HPf := Lib.hid hp
  clear hs hp hb hM hs0 hsp
  go_wp2_with fail
  refine (setC_no STU gU 1 0 3 [q2] Mf 2 1 50 2 sf pf w22 201 HMf.out HSf.out HPf.out HTU.out (by omega) (by rw [HMf.out]; rfl) (by omega)).mono ?_
  rintro e w23 ⟨rfl, hb⟩
  replace HB := Lib.hid (Bt HB.out hb)
  replace HTU := Lib.hid (HTU.out.below hb)
  clear hb
  clear HSf HPf HMf HQq2
  go_wp2_with fail
  refine (version_any STU gU 1 0 3 [q2] w23 HTU.out (by omega)).mono ?_
  rintro e w' ⟨rfl, rfl⟩
  go_wp2_with (first | (refine step_build (t := 34) rfl _ rfl [(0, .int .i64 4), (2, .int .i64 1)] rfl EM.L.toArray (HBE.out _) ?_) | fail)
  rw [HEM.out]
  refine (setM_ok STU gU 0 3 [q2] _ HTU.out (by omega)).mono ?_
  rintro e w24 ⟨rfl, STU, ht, hm, hS2⟩
  replace HB := Lib.hid (Bm HB.out hm (fun i hi => by subst hi; exact GU.out))
  replace HTU := Lib.hid ht
  clear ht hm hS2
  rw [← HEM.out]
  go_wp2_with fail
  refine (version_any STU gU 1 0 4 [] w24 HTU.out (by omega)).mono ?_
  rintro e w' ⟨rfl, rfl⟩
  go_wp2_with fail
  refine (list_any STU gU 1 0 4 [] w24 HTU.out (by omega)).mono ?_
  rw [show listN 0 [] 8 = [] from rfl]
  rintro e w25 ⟨A, c, rfl, ho, hb⟩
  replace HB := Lib.hid (Bt HB.out hb)
  replace HTU := Lib.hid (HTU.out.below hb)
  clear hb
  clear ho
  go_wp2_with fail
  refine (out_any STU gU 1 0 4 [] 2 80 w25 HTU.out (by omega) (by omega) (by omega)).mono ?_
  rintro e w26 ⟨rfl, hb⟩
  replace HB := Lib.hid (Bt HB.out hb)
  replace HTU := Lib.hid (HTU.out.below hb)
  clear hb
  rw [show wiB ((pkN 0 [] 2).getD zPe).outs 80 = false from rfl]
  go_wp2_with fail
  refine (chap_blk 5 w26).mono ?_
  rintro e w27 ⟨sh, ph, rfl, hs0, hsp, hs, hp, hb⟩
  obtain ⟨Mh, hM⟩ : ∃ M, M = netC 5 1 50 2 90 sh ph := ⟨_, rfl⟩
  rw [chap_net, ← hM]
  have HMh := Lib.hid hM
  have Kh := Lib.hid (show W.heap.size ≤ sh from Nat.le_trans HB.out.size hs0)
  have Jh := Lib.hid hsp
  have FHTUh := Lib.hid (show ∀ i, STU i → i < sh from fun i hi => Nat.lt_of_lt_of_le (HTU.out.lts i hi) hs0)
  replace HB := Lib.hid (Bt HB.out hb)
  replace HTU := Lib.hid (HTU.out.below hb)
  have HSh := Lib.hid hs
  have HPh := Lib.hid hp
  clear hs hp hb hM hs0 hsp
  go_wp2_with fail
  refine (setC_ok STU gU 1 0 4 [] Mh 5 50 2 sh ph w27 HMh.out HSh.out HPh.out HTU.out (by omega) (by rw [HMh.out]; exact netC_ok _ _ rfl rfl) (by omega)).mono ?_
  rintro e w28 ⟨rfl, STU, q3, ht, hq, hm, hS2⟩
  replace HB := Lib.hid (Bm HB.out hm (fun i hi => by subst hi; exact GU.out))
  replace HTU := Lib.hid ht
  have HQq3 := Lib.hid hq
  clear ht hq hm hS2
  clear HSh HPh HMh
  go_wp2_with fail
  refine (has_true STU gU 1 0 5 q3 w28 HTU.out (by omega) HQq3.out.two (by omega)).mono ?_
  rintro e w29 ⟨rfl, hb⟩
  replace HB := Lib.hid (Bt HB.out hb)
  replace HTU := Lib.hid (HTU.out.below hb)
  clear hb
  go_wp2_with fail
  refine (out_is STU gU 1 5 q3 2 2 90 true w29 HTU.out (by omega) HQq3.out (by omega) (by omega) rfl).mono ?_
  rintro e w30 ⟨rfl, hb⟩
  replace HB := Lib.hid (Bt HB.out hb)
  replace HTU := Lib.hid (HTU.out.below hb)
  clear hb
  go_wp2_with fail
  refine (out_is STU gU 1 5 q3 2 2 79 false w30 HTU.out (by omega) HQq3.out (by omega) (by omega) rfl).mono ?_
  rintro e w31 ⟨rfl, hb⟩
  replace HB := Lib.hid (Bt HB.out hb)
  replace HTU := Lib.hid (HTU.out.below hb)
  clear hb
  go_wp2_with fail
  refine (out_is STU gU 1 5 q3 2 2 (-1) false w31 HTU.out (by omega) HQq3.out (by omega) (by omega) rfl).mono ?_
  rintro e w32 ⟨rfl, hb⟩
  replace HB := Lib.hid (Bt HB.out hb)
  replace HTU := Lib.hid (HTU.out.below hb)
  clear hb
  go_wp2_with fail
  refine (out_is STU gU 1 5 q3 2 1 80 false w32 HTU.out (by omega) HQq3.out (by omega) (by omega) rfl).mono ?_
  rintro e w33 ⟨rfl, hb⟩
  replace HB := Lib.hid (Bt HB.out hb)
  replace HTU := Lib.hid (HTU.out.below hb)
  clear hb
  go_wp2_with fail
  refine (chap_blk 3 w33).mono ?_
  rintro e w34 ⟨si, pi, rfl, hs0, hsp, hs, hp, hb⟩
  obtain ⟨Mi, hM⟩ : ∃ M, M = netC 3 1 50 2 90 si pi := ⟨_, rfl⟩
  rw [chap_net, ← hM]
  have HMi := Lib.hid hM
  have Ki := Lib.hid (show W.heap.size ≤ si from Nat.le_trans HB.out.size hs0)
  have Ji := Lib.hid hsp
  have FHTUi := Lib.hid (show ∀ i, STU i → i < si from fun i hi => Nat.lt_of_lt_of_le (HTU.out.lts i hi) hs0)
  replace HB := Lib.hid (Bt HB.out hb)
  replace HTU := Lib.hid (HTU.out.below hb)
  have HSi := Lib.hid hs
  have HPi := Lib.hid hp
  clear hs hp hb hM hs0 hsp
  have HLi := Lib.hid (show Mi.L.length = 37 by rw [HMi.out]; exact Nm.len k1_len)
  have HOi := Lib.hid (show ∀ u ∈ Mi.L, u.oneCell' = true by rw [HMi.out]; exact Nm.one _)
  go_wp2_with (first | (refine step_store big_map rfl (.tmp 13) (.tmp 171) rfl w34.heap.size rfl Mi.L HLi.out HOi.out rfl 34 _ (Blk.new w34 34 _) rfl ?_; intro w35 hb3 hm3 hs3; have HGi := Lib.hid hb3; have HM3 := Lib.hid hm3; clear hb3 hm3 hs3) | fail)
  have hb : Below w34.heap.size w34 w35 := Mod.below (S := fun i => i = w34.heap.size) (((Mod.refl _ _).alloc _).trans HM3.out (fun i hi => .inl hi)) (Nat.le_refl _) (fun i hi => by omega)
  clear HM3
  replace HB := Lib.hid (Bt HB.out hb)
  replace HTU := Lib.hid (HTU.out.below hb)
  replace HSi := Lib.hid (HSi.out.later hb)
  replace HPi := Lib.hid (HPi.out.later hb)
  clear hb
  refine (new_ok 1 w35 rfl).mono ?_
  rintro e w36 ⟨gV, rfl, ht, hgW, hb⟩
  have FHTUV := Lib.hid (show ∀ i, STU i → i ≠ gV from fun i hi => by have := HTU.out.lts i hi; omega)
  have FHSiV := Lib.hid (Nat.ne_of_lt (Nat.lt_of_lt_of_le HSi.out.lt hgW))
  have FHPiV := Lib.hid (Nat.ne_of_lt (Nat.lt_of_lt_of_le HPi.out.lt hgW))
  have FHGiV := Lib.hid (Nat.ne_of_lt (Nat.lt_of_lt_of_le HGi.out.lt hgW))
  have GV := Lib.hid (show W.heap.size ≤ gV from Nat.le_trans HB.out.size hgW)
  replace HB := Lib.hid (Bt HB.out hb)
  replace HTU := Lib.hid (HTU.out.below hb)
  replace HSi := Lib.hid (HSi.out.later hb)
  replace HPi := Lib.hid (HPi.out.later hb)
  replace HGi := Lib.hid (HGi.out.later hb)
  obtain ⟨STV, HTV⟩ : ∃ S, Hid (TbAt w36 S gV 1 0 0 []) := ⟨_, Lib.hid ht⟩
  clear ht hgW hb
  have HLN := Lib.hid (show Mi.L.length = 37 by rw [HMi.out]; exact Nm.len k1_len)
  go_wp2_with (first | ((refine step_load big_map (by first | rfl | simp [Region.wanted, yielded]) (.tmp 13) rfl (w34.heap.size) 0 rfl Mi.L HLN.out (blk_range HGi.out) ?_)) | fail)
  clear HLN
  have UWi := Lib.hid (show si < w36.heap.size from HSi.out.lt)
  refine (setC_ok STV gV 1 0 0 [] Mi 3 50 2 si pi w36 HMi.out HSi.out HPi.out HTV.out (by omega) (by rw [HMi.out]; exact netC_ok _ _ rfl rfl) (by omega)).mono ?_
  rintro e w37 ⟨rfl, STV, q4, ht, hq, hm, hS2⟩
  replace HB := Lib.hid (Bm HB.out hm (fun i hi => by subst hi; exact GV.out))
  replace HTU := Lib.hid (HTU.out.kept hm (fun i hi e => FHTUV.out i hi e))
  replace HSi := Lib.hid (HSi.out.kept hm (fun e => FHSiV.out e))
  replace HPi := Lib.hid (HPi.out.kept hm (fun e => FHPiV.out e))
  replace HGi := Lib.hid (HGi.out.kept hm (fun e => FHGiV.out e))
  replace HTV := Lib.hid ht
  have HQq4 := Lib.hid hq
  have HSV := Lib.hid hS2
  clear ht hq hm hS2
  have c36 := (HGi.out.cell 36).trans (show Mi.L.toArray[36]? = some (.slice (some ⟨pi, 0, none⟩) 1 1) by rw [HMi.out]; rfl)
  have c35 := (HPi.out.cell 35).trans (show (pN 2 90 si).L.toArray[35]? = some (.slice (some ⟨si, 0, none⟩) 1 1) from rfl)
  have c1 := (HSi.out.cell 1).trans (show (#[.int .i64 80, .int .i64 90] : Array Value)[1]? = some (.int .i64 90) from rfl)
  have f1 := HSi.out.frozen 1
  have l1 := HSi.out.lt
  have l2 := HPi.out.lt
  have l3 := HGi.out.lt
  go_upto_region 15 with fail
  obtain ⟨w38, hw4⟩ : ∃ u, u = w37.setCell ⟨si, 1, none⟩ (.int .i64 99) := ⟨_, rfl⟩
  rw [← hw4]
  have hm : Mod (fun i => i = si) w37 w38 := by rw [hw4]; exact (Mod.refl (fun i => i = si) _).setCell (p := ⟨si, 1, none⟩) (.inl rfl) _
  have hsV : si ≠ gV := fun e => FHSiV.out e
  replace HB := Lib.hid (Bm HB.out hm (fun i hi => by subst hi; exact Ki.out))
  replace HTU := Lib.hid (HTU.out.kept hm (fun i hi e => by have := FHTUi.out i hi; omega))
  replace HTV := Lib.hid (HTV.out.kept hm (fun i hi e => by rcases HSV.out i hi with h | h; exact hsV (by omega); have := UWi.out; omega))
  clear hw4 hm hsV c36 c35 c1 f1 l1 l2 l3
  clear HSi HPi HGi HMi
  go_wp2_with fail
  refine (out_is STV gV 1 3 q4 2 2 95 false w38 HTV.out (by omega) HQq4.out (by omega) (by omega) rfl).mono ?_
  rintro e w39 ⟨rfl, hb⟩
  replace HB := Lib.hid (Bt HB.out hb)
  replace HTU := Lib.hid (HTU.out.below hb)
  replace HTV := Lib.hid (HTV.out.below hb)
  clear hb
  go_wp2_with fail
  refine (out_is STV gV 1 3 q4 2 2 90 true w39 HTV.out (by omega) HQq4.out (by omega) (by omega) rfl).mono ?_
  rintro e w40 ⟨rfl, hb⟩
  replace HB := Lib.hid (Bt HB.out hb)
  replace HTU := Lib.hid (HTU.out.below hb)
  replace HTV := Lib.hid (HTV.out.below hb)
  clear hb
  clear HTV HSV HQq4
  go_wp2_with fail
  refine (chap_blk 3 w40).mono ?_
  rintro e w41 ⟨sj, pj, rfl, hs0, hsp, hs, hp, hb⟩
  obtain ⟨Mj, hM⟩ : ∃ M, M = netC 3 1 50 2 90 sj pj := ⟨_, rfl⟩
  rw [chap_net, ← hM]
  have HMj := Lib.hid hM
  have Kj := Lib.hid (show W.heap.size ≤ sj from Nat.le_trans HB.out.size hs0)
  have Jj := Lib.hid hsp
  have FHTUj := Lib.hid (show ∀ i, STU i → i < sj from fun i hi => Nat.lt_of_lt_of_le (HTU.out.lts i hi) hs0)
  replace HB := Lib.hid (Bt HB.out hb)
  replace HTU := Lib.hid (HTU.out.below hb)
  have HSj := Lib.hid hs
  have HPj := Lib.hid hp
  clear hs hp hb hM hs0 hsp
  have HLj := Lib.hid (show Mj.L.length = 37 by rw [HMj.out]; exact Nm.len k1_len)
  have HOj := Lib.hid (show ∀ u ∈ Mj.L, u.oneCell' = true by rw [HMj.out]; exact Nm.one _)
  go_upto_region 17 with (first | (refine step_store big_map rfl (.tmp 17) (.tmp 201) rfl w41.heap.size rfl Mj.L HLj.out HOj.out rfl 34 _ (Blk.new w41 34 _) rfl ?_; intro w42 hb3 hm3 hs3; have HGj := Lib.hid hb3; have HM3 := Lib.hid hm3; clear hb3 hm3 hs3) | fail)
  have hb : Below w41.heap.size w41 w42 := Mod.below (S := fun i => i = w41.heap.size) (((Mod.refl _ _).alloc _).trans HM3.out (fun i hi => .inl hi)) (Nat.le_refl _) (fun i hi => by omega)
  clear HM3
  replace HB := Lib.hid (Bt HB.out hb)
  replace HTU := Lib.hid (HTU.out.below hb)
  replace HSj := Lib.hid (HSj.out.later hb)
  replace HPj := Lib.hid (HPj.out.later hb)
  clear hb
  have c36 := (HGj.out.cell 36).trans (show Mj.L.toArray[36]? = some (.slice (some ⟨pj, 0, none⟩) 1 1) by rw [HMj.out]; rfl)
  have c0 := (HPj.out.cell 0).trans (show (pN 2 90 sj).L.toArray[0]? = some (.int .i64 2) from rfl)
  have f0 := HPj.out.frozen 0
  have l2 := HPj.out.lt
  have l3 := HGj.out.lt
  go_upto_region 18 with fail
  obtain ⟨w43, hw4⟩ : ∃ u, u = w42.setCell ⟨pj, 0, none⟩ (.int .i64 8) := ⟨_, rfl⟩
  rw [← hw4]
  have hm : Mod (fun i => i = pj) w42 w43 := by rw [hw4]; exact (Mod.refl (fun i => i = pj) _).setCell (p := ⟨pj, 0, none⟩) (.inl rfl) _
  obtain ⟨Nj, hN⟩ : ∃ M, M = netC 3 1 50 8 90 sj pj := ⟨_, rfl⟩
  have hgj : w41.heap.size ≠ pj := fun e => HGj.out.ne_ HPj.out (by decide) e
  replace HB := Lib.hid (Bm HB.out hm (fun i hi => by subst hi; have := Kj.out; have := Jj.out; omega))
  replace HTU := Lib.hid (HTU.out.kept hm (fun i hi e => by have := FHTUj.out i hi; have := Jj.out; omega))
  replace HSj := Lib.hid (HSj.out.kept hm (fun e => by have := Jj.out; omega))
  replace HGj := Lib.hid (show Blk w43 w41.heap.size 34 Nj.L.toArray by rw [show Nj.L.toArray = Mj.L.toArray by rw [hN, HMj.out]; rfl]; exact HGj.out.kept hm (fun e => hgj e))
  replace HPj := Lib.hid (show Blk w43 pj 43 (pN 8 90 sj).L.toArray by rw [hw4]; exact HPj.out.set_ 0 _)
  have HNj := Lib.hid hN
  clear hw4 hm hgj c36 c0 f0 l2 l3 hN
  go_wp2_with fail
  refine (new_ok 1 w43 rfl).mono ?_
  rintro e w44 ⟨gX, rfl, ht, hgW, hb⟩
  have FHTUX := Lib.hid (show ∀ i, STU i → i ≠ gX from fun i hi => by have := HTU.out.lts i hi; omega)
  have FHSjX := Lib.hid (Nat.ne_of_lt (Nat.lt_of_lt_of_le HSj.out.lt hgW))
  have FHPjX := Lib.hid (Nat.ne_of_lt (Nat.lt_of_lt_of_le HPj.out.lt hgW))
  have FHGjX := Lib.hid (Nat.ne_of_lt (Nat.lt_of_lt_of_le HGj.out.lt hgW))
  have GX := Lib.hid (show W.heap.size ≤ gX from Nat.le_trans HB.out.size hgW)
  replace HB := Lib.hid (Bt HB.out hb)
  replace HTU := Lib.hid (HTU.out.below hb)
  replace HSj := Lib.hid (HSj.out.later hb)
  replace HPj := Lib.hid (HPj.out.later hb)
  replace HGj := Lib.hid (HGj.out.later hb)
  obtain ⟨STX, HTX⟩ : ∃ S, Hid (TbAt w44 S gX 1 0 0 []) := ⟨_, Lib.hid ht⟩
  clear ht hgW hb
  have HLN := Lib.hid (show Nj.L.length = 37 by rw [HNj.out]; exact Nm.len k1_len)
  go_wp2_with (first | ((refine step_load big_map (by first | rfl | simp [Region.wanted, yielded]) (.tmp 17) rfl (w41.heap.size) 0 rfl Nj.L HLN.out (blk_range HGj.out) ?_)) | fail)
  clear HLN
  refine (setC_ok STX gX 1 0 0 [] Nj 3 50 8 sj pj w44 HNj.out HSj.out HPj.out HTX.out (by omega) (by rw [HNj.out]; exact netC_ok _ _ rfl rfl) (by omega)).mono ?_
  rintro e w45 ⟨rfl, STX, q5, ht, hq, hm, hS2⟩
  replace HB := Lib.hid (Bm HB.out hm (fun i hi => by subst hi; exact GX.out))
  replace HTU := Lib.hid (HTU.out.kept hm (fun i hi e => FHTUX.out i hi e))
  replace HTX := Lib.hid ht
  have HQq5 := Lib.hid hq
  clear ht hq hm hS2
  clear HSj HPj HGj HMj HNj
  go_wp2_with fail
  refine (list_any STX gX 1 0 3 [q5] w45 HTX.out (by omega)).mono ?_
  rw [show listN 0 [q5] 8 = [8] from is_list8 HQq5.out]
  rintro e w46 ⟨A, c, rfl, ho, hb⟩
  replace HB := Lib.hid (Bt HB.out hb)
  replace HTU := Lib.hid (HTU.out.below hb)
  replace HTX := Lib.hid (HTX.out.below hb)
  clear hb
  have HO := Lib.hid (show w46.ownsRow _ 3 1 (.slice A 1 c) 1 (ints [8]) from ho)
  clear ho
  go_wp2_with fail
  refine (ints_same _ _ A (some ⟨w46.heap.size, 0, none⟩) c 1 [8] _ (Rd.of_own (HO.out.alloc _)) (Rd.box w46 3 [.int .i64 8] 1 rfl)).mono ?_
  rintro e w47 ⟨rfl, n5, hw5⟩
  have hb : Below w46.heap.size w46 w47 := by rw [hw5]; exact BdN (Ba (B0 _) _) _
  replace HB := Lib.hid (Bt HB.out hb)
  replace HTU := Lib.hid (HTU.out.below hb)
  replace HTX := Lib.hid (HTX.out.below hb)
  clear hb hw5 HO
  go_wp2_with fail
  refine (out_is STX gX 1 3 q5 8 8 80 true w47 HTX.out (by omega) HQq5.out (by omega) (by omega) rfl).mono ?_
  rintro e w48 ⟨rfl, hb⟩
  replace HB := Lib.hid (Bt HB.out hb)
  replace HTU := Lib.hid (HTU.out.below hb)
  replace HTX := Lib.hid (HTX.out.below hb)
  clear hb
  clear HTX HQq5
  go_wp2_with (first | (refine step_build (t := 31) rfl _ rfl [] rfl K0.toArray (HBK0.out _) ?_) | fail)
  rw [HK0.out]
  refine (key_is STU gU 1 5 q3 z32 w48 HTU.out (by omega) HQq3.out z32_len z32_byt (by decide)).mono ?_
  rintro e w49 ⟨rfl, hb⟩
  replace HB := Lib.hid (Bt HB.out hb)
  replace HTU := Lib.hid (HTU.out.below hb)
  clear hb
  rw [← HK0.out]
  go_wp2_with (first | (refine step_build (t := 31) rfl _ rfl [(0, .int .u8 1)] rfl K1.toArray (HBK1.out _) ?_) | fail)
  rw [HK1.out]
  refine (key_is STU gU 1 5 q3 k1 w49 HTU.out (by omega) HQq3.out k1_len k1_byt (by decide)).mono ?_
  rintro e w50 ⟨rfl, hb⟩
  replace HB := Lib.hid (Bt HB.out hb)
  replace HTU := Lib.hid (HTU.out.below hb)
  clear hb
  rw [← HK1.out]
  clear HTU HQq3
  go_wp2_with fail
  have HLK := Lib.hid (show K0.length = 32 by rw [HK0.out, bts_length]; exact z32_len)
  have HKO := Lib.hid (show ∀ u ∈ K0, u.oneCell' = true by rw [HK0.out]; exact bts_one' _)
  go_loopw [24, 25] (fun p i wr => ∃ k : Nat, k ≤ 2 ∧ i = .int .i64 k ∧ NoneP p wr ∧ Below W.heap.size W wr) (fun _ i _ => 2 - (intOf i).toNat)
  case atStart => exact ⟨0, by omega, rfl, noneP_nil _, HB.out⟩
  case round =>
    obtain ⟨k, hk, rfl, hn, hb⟩ := hrel
    obtain ⟨wv, rfl⟩ : ∃ wv, wv = wr := ⟨_, rfl⟩
    replace HB := Lib.hid hb
    have HN := Lib.hid hn
    clear hb hn
    by_cases hlt : k < 2
    · have hk0 : (0 : Int) ≤ (k : Int) := by omega
      have hk2 : (k : Int) < 2 := by omega
      go_wp2_with (first | (refine step_build (t := 31) rfl _ rfl [] rfl K0.toArray (HBK0.out _) ?_) | fail)
      rw [HK0.out]
      refine (key_none _ z32 wv HN.out z32_len).mono ?_
      rintro e w51 ⟨rfl, hb⟩
      replace HN := Lib.hid (HN.out.below hb)
      replace HB := Lib.hid (Bt HB.out hb)
      clear hb
      rw [← HK0.out]
      go_wp2_with fail
      refine (by_none _ 1 w51 HN.out).mono ?_
      rintro e w52 ⟨rfl, hb⟩
      replace HN := Lib.hid (HN.out.below hb)
      replace HB := Lib.hid (Bt HB.out hb)
      clear hb
      rw [← HK0.out]
      go_upto_region 28 with (first | (refine step_store big_key rfl (.tmp 28) (.tmp 256) rfl w52.heap.size rfl K0 HLK.out HKO.out rfl 31 _ (Blk.new w52 31 (bts z32).toArray) (by simp [bts, z32]) ?_; intro w53 hb5 hm5 hs5; have HP5 := Lib.hid hb5; have HM5 := Lib.hid hm5; clear hb5 hm5 hs5) | fail)
      have hb : Below w52.heap.size w52 w53 := Bm (Ba (B0 w52) _) HM5.out (fun i hi => by omega)
      replace HN := Lib.hid (HN.out.below hb)
      replace HB := Lib.hid (Bt HB.out hb)
      clear hb HM5
      go_wp2_with fail
      refine (chapter_any 1 w53).mono ?_
      rintro e w54 ⟨gs, gp, rfl, _, hb⟩
      replace HN := Lib.hid (HN.out.below hb)
      replace HB := Lib.hid (Bt HB.out hb)
      replace HP5 := Lib.hid (HP5.out.later hb)
      clear hb
      obtain ⟨M, hM⟩ : ∃ M, M = chap 1 gs gp := ⟨_, rfl⟩
      rw [← hM]
      clear hM
      go_wp2_with fail
      refine (set_none _ M w54 HN.out).mono ?_
      rintro e w55 ⟨rfl, hb⟩
      replace HN := Lib.hid (HN.out.below hb)
      replace HB := Lib.hid (Bt HB.out hb)
      replace HP5 := Lib.hid (HP5.out.later hb)
      clear hb
      go_wp2_with fail
      refine (now_none _ 1 w55 HN.out).mono ?_
      rintro e w' ⟨rfl, rfl⟩
      go_wp2_with (first | (refine step_load big_key (by first | rfl | simp [Region.wanted, yielded]) (.tmp 28) rfl (w52.heap.size) 0 rfl K0 HLK.out (blk_range HP5.out) ?_) | (refine step_build (t := 31) (by first | rfl | simp [Region.wanted, yielded]) _ rfl [] rfl K0.toArray (HBK0.out _) ?_) | (refine step_eqK (by first | rfl | simp [Region.wanted, yielded]) .neq (.inr rfl) (.tmp 278) (.tmp 279) rfl z32 z32 (by rw [← HK0.out]; rfl) (by rw [← HK0.out]; rfl) z32_len z32_len false (by rw [if_neg (by decide)]; simp) ?_) | fail)
      refine (in_none _ 1 1 w55 HN.out).mono ?_
      rintro e w56 ⟨rfl, hb⟩
      replace HN := Lib.hid (HN.out.below hb)
      replace HB := Lib.hid (Bt HB.out hb)
      replace HP5 := Lib.hid (HP5.out.later hb)
      clear hb
      go_wp2_with fail
      refine (out_none _ 1 1 w56 HN.out).mono ?_
      rintro e w57 ⟨rfl, hb⟩
      replace HN := Lib.hid (HN.out.below hb)
      replace HB := Lib.hid (Bt HB.out hb)
      replace HP5 := Lib.hid (HP5.out.later hb)
      clear hb
      go_wp2_with fail
      refine (version_none _ w57 HN.out).mono ?_
      rintro e w' ⟨rfl, rfl⟩
      go_wp2_with fail
      refine (list_none_ _ w57 HN.out).mono ?_
      rintro e w58 ⟨rfl, hb⟩
      replace HN := Lib.hid (HN.out.below hb)
      replace HB := Lib.hid (Bt HB.out hb)
      replace HP5 := Lib.hid (HP5.out.later hb)
      clear hb
      go_wp2_with fail
      go_roundw
      case rel => exact ⟨k + 1, by omega, by go_num, noneP_zero (Blk.new _ _ _), Ba HB.out _⟩
      case measure => simp [intOf]; omega
    · obtain rfl : k = 2 := by omega
      go_wp2_with fail
      refine (works_any wv).mono ?_
      rintro e w59 ⟨rfl, hb⟩
      replace HN := Lib.hid (HN.out.below hb)
      replace HB := Lib.hid (Bt HB.out hb)
      clear hb
      go_wp2_with fail
      go_ret
      exact ⟨rfl, HB.out⟩
theorem peersKnown_walk (W : World) : Calls Try.prog 9 #[] W fun e w' => e = .returned (.bool true) ∧ Below W.heap.size W w' := peersKnown_at W
end Go.Proofs.Ytgmndppjdnpejaa
