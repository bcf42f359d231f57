/- A table's answer: Key. -/
import Derived.Test.YtgmndppjdnpejaaB11
namespace Go.Proofs.Ytgmndppjdnpejaa
open Go.RowKit
set_option maxRecDepth 20000
set_option linter.unusedVariables false
set_option linter.unusedSimpArgs false

theorem exec_lookV {t : TypeId} {r : Operand → Value} {op : Oper} {w : World} (m x : Operand) (c : Bool) (ho : op.op = Op.lookup t m x c) (mv key v : Value) (hm : r m = mv) (hx : r x = key) (hr : (Instr.lookup t mv key c).run Try.prog w = .ok v w) : (execOp r op).run Try.prog w = .ok (.value v) w := by
  unfold execOp
  simp only [ho, hm, hx, hr, Sem.run_bind, Result.andThen_ok, Sem.run_pure]
theorem TbAt.maps {w : World} {S : Nat → Prop} {g : Nat} {node tick ver : Int} {ps : List Pe} (h : TbAt w S g node tick ver ps) : ∃ mk mn, Blk w g 71 (tbCs node tick ver mk mn) ∧ TbMaps w (fun i => S i ∧ i ≠ g) mk mn ps := h.2.2
def nodeK (ps : List Pe) (ks : List Int) : Int := ((lkK ps ks).map Pe.nd).getD 0
/-- What Key answers: a node's number, and whether it counts. -/
def KeyDid (Q : Option Pe) (W : World) (e : Ending) (w' : World) : Prop := e = .returned (.tuple #[.int .i64 (Q.getD zPe).nd, .bool Q.isSome]) ∧ Below W.heap.size W w'
theorem nodeK_rng {ps : List Pe} (h : ∀ p ∈ ps, 1 ≤ p.nd ∧ p.nd ≤ 8) (ks : List Int) : 0 ≤ nodeK ps ks ∧ nodeK ps ks ≤ 8 := by
  unfold nodeK
  cases hq : lkK ps ks with
  | none => simp
  | some p =>
    have := h p (by have := List.mem_of_find?_eq_some hq; simpa using this)
    simp
    omega
set_option maxHeartbeats 4000000 in
theorem key_any (S : Nat → Prop) (g : Nat) (node tick ver : Int) (ps : List Pe) (ks : List Int) (W : World) (h : TbAt W S g node tick ver ps) (hn : 1 ≤ node) (hnd : ∀ p ∈ ps, 1 ≤ p.nd ∧ p.nd ≤ 8) (hk : ks.length = 32) (hkb : Byt ks) :
    Calls Try.prog 24 #[.pointer (some ⟨g, 0, none⟩), .agg (bts ks).toArray] W (KeyDid (pkN tick ps (nodeK ps ks)) W) := by
  obtain ⟨n0, hn0⟩ : ∃ n, n = nodeK ps ks := ⟨_, rfl⟩
  obtain ⟨r0, r1⟩ := nodeK_rng hnd ks
  rw [← hn0] at r0 r1 ⊢
  obtain ⟨w1, hw1⟩ : ∃ u, u = W.alloc (.cells (bts ks).toArray 31) := ⟨_, rfl⟩
  have hb1 : Below W.heap.size W w1 := by rw [hw1]; exact Ba (B0 W) _
  have HT := Lib.hid (h.below hb1)
  obtain ⟨mk, mn, htb, htm⟩ := HT.out.maps
  have HR := Lib.hid (show Blk w1 W.heap.size 31 (bts ks).toArray by rw [hw1]; exact Blk.new _ _ _)
  have HB1 := Lib.hid hb1
  have HW1 := Lib.hid hw1
  have HKS := Lib.hid (show ∀ p ∈ ps, p.ks.length = 32 from fun p hp => (h.each p hp).k32)
  have hq := pkN_at (tick := tick) (n := n0) h.each
  obtain ⟨Q, hQ⟩ : ∃ Q, Q = pkN tick ps n0 := ⟨_, rfl⟩
  rw [← hQ] at hq ⊢
  have HQ := Lib.hid hQ
  obtain ⟨q, hqq⟩ : ∃ q, q = Q.getD zPe := ⟨_, rfl⟩
  rw [← hqq] at hq
  have HQL := Lib.hid (Pe.len hq.k32)
  have HQK := Lib.hid hq.k32
  have HQQ := Lib.hid hqq
  obtain ⟨b, hbq⟩ : ∃ b, b = Q.isSome := ⟨_, rfl⟩
  have HBQ := Lib.hid hbq
  have HLK := Lib.hid (show (bts ks).length = 32 by rw [bts_length]; exact hk)
  have HN0 := Lib.hid hn0
  have HSK : Hid (∀ w', Below w1.heap.size w1 w' → w'.cell? ⟨g, 3, none⟩ = some (.map mk) ∧ w'.rangeAt W.heap.size 0 (bts ks) ∧ (Instr.lookup 68 (.map mk) (.agg (bts ks).toArray) false).run Try.prog w' = .ok (.int .i64 n0) w') := Lib.hid (fun w' hb => by
    refine ⟨?_, range_below (blk_range HR.out) hb HR.out.lt, ?_⟩
    · exact (htb.later hb).cell 3
    · have := look_key (htm.kept (Mod.of_below (S := fun _ => False) hb) (fun _ _ h => h)) hkb hk
      rw [this, HN0.out]
      rfl)
  have HTB := Lib.hid htb
  have lg := htb.lt
  have lr := HR.out.lt
  clear h hb1 hw1 hq hQ hqq hbq htb htm hn0
  go_enter Try.func24, Try.ntmps24
  go_upto_region 1 with fail
  change Code.wp _ _ _ _ (W.alloc (.cells (bts ks).toArray 31))
  rw [← HW1.out]
  go_upto_region 3 with (first | (go_at_call 33; refine (none_any g node tick ver mk mn _ HTB.out hn).mono ?_; rintro e w' ⟨rfl, rfl⟩) | fail)
  refine wp_region_held_drew (S := fun w' => w'.cell? ⟨g, 3, none⟩ = some (.map mk) ∧ w'.rangeAt W.heap.size 0 (bts ks) ∧ (Instr.lookup 68 (.map mk) (.agg (bts ks).toArray) false).run Try.prog w' = .ok (.int .i64 n0) w') (by kernel_rfl) (HSK.out _ (Bd (B0 w1))) (fun hHeld => ?_)
  obtain ⟨wd, hwd⟩ : ∃ u, u = w1.drew := ⟨_, rfl⟩
  rw [← hwd] at hHeld ⊢
  have HBD := Lib.hid (show Below w1.heap.size w1 wd by rw [hwd]; exact Bd (B0 w1))
  clear hwd
  refine wpAnyH_take (i := 0) (v := ?_) rfl (by kernel_rfl) (by kernel_rfl) (by kernel_rfl) (fun _ _ _ h => h) (Or.inl ⟨by kernel_rfl, ?_⟩) (by assumption) ?_
  rotate_left 1
  · (intro w hSw; (try dsimp only at hSw); go_simp; try with_reducible rfl)
  try simp only [Act.put, List.getElem_toArray, List.getElem_cons_succ, List.getElem_cons_zero, List.setIfInBounds_toArray, List.set_cons_zero, List.set_cons_succ]
  refine wpAnyH_take (i := 1) (v := ?_) rfl (by kernel_rfl) (by kernel_rfl) (by kernel_rfl) (fun _ _ _ h => h) (Or.inl ⟨by kernel_rfl, ?_⟩) (by assumption) ?_
  rotate_left 1
  · (intro w hSw; (try dsimp only at hSw); go_simp; try with_reducible rfl)
  try simp only [Act.put, List.getElem_toArray, List.getElem_cons_succ, List.getElem_cons_zero, List.setIfInBounds_toArray, List.set_cons_zero, List.set_cons_succ]
  refine wpAnyH_take (i := 2) (v := ?_) rfl (by kernel_rfl) (by kernel_rfl) (by kernel_rfl) (fun _ _ _ h => h) (Or.inl ⟨by kernel_rfl, ?_⟩) (by assumption) ?_
  rotate_left 1
  · (intro w hSw; (try dsimp only at hSw); go_simp; try with_reducible rfl)
  try simp only [Act.put, List.getElem_toArray, List.getElem_cons_succ, List.getElem_cons_zero, List.setIfInBounds_toArray, List.set_cons_zero, List.set_cons_succ]
  refine wpAnyH_take (i := 3) (v := ?_) rfl (by kernel_rfl) (by kernel_rfl) (by kernel_rfl) (fun _ _ _ h => h) (Or.inl ⟨by kernel_rfl, ?_⟩) (by assumption) ?_
  rotate_left 1
  · (intro w hSw; (try dsimp only at hSw); go_simp; try with_reducible rfl)
  try simp only [Act.put, List.getElem_toArray, List.getElem_cons_succ, List.getElem_cons_zero, List.setIfInBounds_toArray, List.set_cons_zero, List.set_cons_succ]
  refine wpAnyH_take (i := 4) (v := ?_) rfl (by kernel_rfl) (by kernel_rfl) (by kernel_rfl) (fun _ _ _ h => h) (Or.inl ⟨by kernel_rfl, ?_⟩) (by assumption) ?_
  rotate_left 1
  · (intro w hSw; (try dsimp only at hSw); go_simp; try with_reducible rfl)
  try simp only [Act.put, List.getElem_toArray, List.getElem_cons_succ, List.getElem_cons_zero, List.setIfInBounds_toArray, List.set_cons_zero, List.set_cons_succ]
  refine wpAnyH_take (i := 5) (v := ?_) rfl (by kernel_rfl) (by kernel_rfl) (by kernel_rfl) (fun _ _ _ h => h) (Or.inl ⟨by kernel_rfl, ?_⟩) (by assumption) ?_
  rotate_left 1
  · (intro w hSw; refine exec_load big_key (.tmp 3) ?_ W.heap.size 0 ?_ (bts ks) HLK.out hSw.2.1 <;> rfl)
  try simp only [Act.put, List.getElem_toArray, List.getElem_cons_succ, List.getElem_cons_zero, List.setIfInBounds_toArray, List.set_cons_zero, List.set_cons_succ]
  refine wpAnyH_take (i := 6) (v := ?_) rfl (by kernel_rfl) (by kernel_rfl) (by kernel_rfl) (fun _ _ _ h => h) (Or.inl ⟨by kernel_rfl, ?_⟩) (by assumption) ?_
  rotate_left 1
  · (intro w hSw; refine exec_lookV (t := 68) (.tmp 15) (.tmp 16) false ?_ (.map mk) (.agg (bts ks).toArray) (.int .i64 n0) ?_ ?_ hSw.2.2 <;> rfl)
  try simp only [Act.put, List.getElem_toArray, List.getElem_cons_succ, List.getElem_cons_zero, List.setIfInBounds_toArray, List.set_cons_zero, List.set_cons_succ]
  refine wpAnyH_ready (rs := [7, 11]) (by kernel_rfl) (by simp) ?_
  refine AllReadyH.cons rfl (fun K hK => ?_) (AllReadyH.cons rfl (fun K hK => ?_) AllReadyH.nil)
  · skip
    go_simp
    refine (peer_any S g node tick ver ps n0 _ (HT.out.below HBD.out) hn (by omega) (by omega) HKS.out).mono ?_
    rw [← HQ.out]
    rintro e w2 ⟨rfl, hb2⟩
    rw [← HQQ.out, ← HBQ.out]
    have HBC := Lib.hid (Bt HBD.out hb2)
    refine hK.out _ _ (HSK.out _ HBC.out) (fun hHeld => ?_)
    clear hK K
    try simp only [Act.put, List.getElem_toArray, List.getElem_cons_succ, List.getElem_cons_zero, List.setIfInBounds_toArray, List.set_cons_zero, List.set_cons_succ]
    refine wpAnyH_take (i := 8) (v := ?_) rfl (by kernel_rfl) (by kernel_rfl) (by kernel_rfl) (fun _ _ _ h => h) (Or.inl ⟨by kernel_rfl, ?_⟩) (by assumption) ?_
    rotate_left 1
    · (intro w hSw; (try dsimp only at hSw); go_simp; try with_reducible rfl)
    try simp only [Act.put, List.getElem_toArray, List.getElem_cons_succ, List.getElem_cons_zero, List.setIfInBounds_toArray, List.set_cons_zero, List.set_cons_succ]
    refine wpAnyH_take (i := 9) (v := ?_) rfl (by kernel_rfl) (by kernel_rfl) (by kernel_rfl) (fun _ _ _ h => h) (Or.inl ⟨by kernel_rfl, ?_⟩) (by assumption) ?_
    rotate_left 1
    · (intro w hSw; (try dsimp only at hSw); go_simp; try with_reducible rfl)
    try simp only [Act.put, List.getElem_toArray, List.getElem_cons_succ, List.getElem_cons_zero, List.setIfInBounds_toArray, List.set_cons_zero, List.set_cons_succ]
    refine wpAnyH_take (i := 10) (v := ?_) rfl (by kernel_rfl) (by kernel_rfl) (by kernel_rfl) (fun _ _ _ h => h) (Or.inl ⟨by kernel_rfl, ?_⟩) (by assumption) ?_
    rotate_left 1
    · (intro w hSw; (try dsimp only at hSw); go_simp; try with_reducible rfl)
    try simp only [Act.put, List.getElem_toArray, List.getElem_cons_succ, List.getElem_cons_zero, List.setIfInBounds_toArray, List.set_cons_zero, List.set_cons_succ]
    refine wpAnyH_ready (rs := [11]) (by kernel_rfl) (by simp) ?_
    refine AllReadyH.cons rfl (fun K hK => ?_) AllReadyH.nil
    go_simp
    change K _ (w2.alloc (.cells zPe.L.toArray 43))
    obtain ⟨wz, hwz⟩ : ∃ u, u = w2.alloc (.cells zPe.L.toArray 43) := ⟨_, rfl⟩
    rw [← hwz]
    have HBZ := Lib.hid (show Blk wz w2.heap.size 43 zPe.L.toArray by rw [hwz]; exact Blk.new _ _ _)
    have HBB := Lib.hid (show Below w1.heap.size w1 wz by rw [hwz]; exact Ba HBC.out _)
    have HS2 := Lib.hid (show w1.heap.size ≤ w2.heap.size from HBC.out.size)
    clear hwz
    refine hK.out _ _ (HSK.out _ HBB.out) (fun hHeld => ?_)
    clear hK K
    try simp only [Act.put, List.getElem_toArray, List.getElem_cons_succ, List.getElem_cons_zero, List.setIfInBounds_toArray, List.set_cons_zero, List.set_cons_succ]
    refine wpAnyH_ready (rs := [12]) (by kernel_rfl) (by simp) ?_
    refine AllReadyH.cons rfl (fun K hK => ?_) AllReadyH.nil
    refine wp_store_row 43 (.tmp 6) (.tmp 19) rfl w2.heap.size q.L.toArray rfl rfl 43 zPe.L.toArray HBZ.out (by rw [big_peer.sz]; simp [HQL.out]) (by simp [HQL.out, zPe_len]) (all_one q.one) ?_
    obtain ⟨w3, hw3⟩ : ∃ u, u = wz.setRow w2.heap.size q.L.toArray := ⟨_, rfl⟩
    rw [← hw3]
    have HP := Lib.hid (show Blk w3 w2.heap.size 43 q.L.toArray by rw [hw3]; exact HBZ.out.setRow _)
    have HB3 := Lib.hid (show Below w1.heap.size w1 w3 by rw [hw3]; exact Bm HBB.out ((Mod.refl (fun i => i = w2.heap.size) _).setRow (.inl rfl) _) (fun i hi => by subst hi; exact HS2.out))
    clear hw3
    refine hK.out _ _ (HSK.out _ HB3.out) (fun hHeld => ?_)
    clear hK K
    try simp only [Act.put, List.getElem_toArray, List.getElem_cons_succ, List.getElem_cons_zero, List.setIfInBounds_toArray, List.set_cons_zero, List.set_cons_succ]
    refine wpAnyH_take (i := 13) (v := ?_) rfl (by kernel_rfl) (by kernel_rfl) (by kernel_rfl) (fun _ _ _ h => h) (Or.inl ⟨by kernel_rfl, ?_⟩) (by assumption) ?_
    rotate_left 1
    · (intro w hSw; (try dsimp only at hSw); go_simp; try with_reducible rfl)
    try simp only [Act.put, List.getElem_toArray, List.getElem_cons_succ, List.getElem_cons_zero, List.setIfInBounds_toArray, List.set_cons_zero, List.set_cons_succ]
    refine wpAnyH_done (by kernel_rfl) ?_ _
    have hpc := pe_cells (blk_range HP.out) HQK.out
    have y0 := hpc.1
    have lp := HP.out.lt
    clear hpc lg lr
    go_wp2_with fail
    go_ret2
    exact ⟨by rw [← HQQ.out, ← HBQ.out]; rfl, Bt HB1.out HB3.out⟩
  · skip
    go_simp
    change K _ (wd.alloc (.cells zPe.L.toArray 43))
    obtain ⟨wz, hwz⟩ : ∃ u, u = wd.alloc (.cells zPe.L.toArray 43) := ⟨_, rfl⟩
    rw [← hwz]
    have HBZ := Lib.hid (show Blk wz wd.heap.size 43 zPe.L.toArray by rw [hwz]; exact Blk.new _ _ _)
    have HBB := Lib.hid (show Below w1.heap.size w1 wz by rw [hwz]; exact Ba HBD.out _)
    have HS2 := Lib.hid (show w1.heap.size ≤ wd.heap.size from HBD.out.size)
    clear hwz
    refine hK.out _ _ (HSK.out _ HBB.out) (fun hHeld => ?_)
    clear hK K
    try simp only [Act.put, List.getElem_toArray, List.getElem_cons_succ, List.getElem_cons_zero, List.setIfInBounds_toArray, List.set_cons_zero, List.set_cons_succ]
    refine wpAnyH_ready (rs := [7]) (by kernel_rfl) (by simp) ?_
    refine AllReadyH.cons rfl (fun K hK => ?_) AllReadyH.nil
    go_simp
    refine (peer_any S g node tick ver ps n0 _ (HT.out.below HBB.out) hn (by omega) (by omega) HKS.out).mono ?_
    rw [← HQ.out]
    rintro e w2 ⟨rfl, hb2⟩
    rw [← HQQ.out, ← HBQ.out]
    have HBC := Lib.hid (Bt HBB.out hb2)
    replace HBZ := Lib.hid (HBZ.out.later hb2)
    refine hK.out _ _ (HSK.out _ HBC.out) (fun hHeld => ?_)
    clear hK K
    try simp only [Act.put, List.getElem_toArray, List.getElem_cons_succ, List.getElem_cons_zero, List.setIfInBounds_toArray, List.set_cons_zero, List.set_cons_succ]
    refine wpAnyH_take (i := 8) (v := ?_) rfl (by kernel_rfl) (by kernel_rfl) (by kernel_rfl) (fun _ _ _ h => h) (Or.inl ⟨by kernel_rfl, ?_⟩) (by assumption) ?_
    rotate_left 1
    · (intro w hSw; (try dsimp only at hSw); go_simp; try with_reducible rfl)
    try simp only [Act.put, List.getElem_toArray, List.getElem_cons_succ, List.getElem_cons_zero, List.setIfInBounds_toArray, List.set_cons_zero, List.set_cons_succ]
    refine wpAnyH_take (i := 9) (v := ?_) rfl (by kernel_rfl) (by kernel_rfl) (by kernel_rfl) (fun _ _ _ h => h) (Or.inl ⟨by kernel_rfl, ?_⟩) (by assumption) ?_
    rotate_left 1
    · (intro w hSw; (try dsimp only at hSw); go_simp; try with_reducible rfl)
    try simp only [Act.put, List.getElem_toArray, List.getElem_cons_succ, List.getElem_cons_zero, List.setIfInBounds_toArray, List.set_cons_zero, List.set_cons_succ]
    refine wpAnyH_take (i := 10) (v := ?_) rfl (by kernel_rfl) (by kernel_rfl) (by kernel_rfl) (fun _ _ _ h => h) (Or.inl ⟨by kernel_rfl, ?_⟩) (by assumption) ?_
    rotate_left 1
    · (intro w hSw; (try dsimp only at hSw); go_simp; try with_reducible rfl)
    try simp only [Act.put, List.getElem_toArray, List.getElem_cons_succ, List.getElem_cons_zero, List.setIfInBounds_toArray, List.set_cons_zero, List.set_cons_succ]
    refine wpAnyH_ready (rs := [12]) (by kernel_rfl) (by simp) ?_
    refine AllReadyH.cons rfl (fun K hK => ?_) AllReadyH.nil
    refine wp_store_row 43 (.tmp 6) (.tmp 19) rfl wd.heap.size q.L.toArray rfl rfl 43 zPe.L.toArray HBZ.out (by rw [big_peer.sz]; simp [HQL.out]) (by simp [HQL.out, zPe_len]) (all_one q.one) ?_
    obtain ⟨w3, hw3⟩ : ∃ u, u = w2.setRow wd.heap.size q.L.toArray := ⟨_, rfl⟩
    rw [← hw3]
    have HP := Lib.hid (show Blk w3 wd.heap.size 43 q.L.toArray by rw [hw3]; exact HBZ.out.setRow _)
    have HB3 := Lib.hid (show Below w1.heap.size w1 w3 by rw [hw3]; exact Bm HBC.out ((Mod.refl (fun i => i = wd.heap.size) _).setRow (.inl rfl) _) (fun i hi => by subst hi; exact HS2.out))
    clear hw3
    refine hK.out _ _ (HSK.out _ HB3.out) (fun hHeld => ?_)
    clear hK K
    try simp only [Act.put, List.getElem_toArray, List.getElem_cons_succ, List.getElem_cons_zero, List.setIfInBounds_toArray, List.set_cons_zero, List.set_cons_succ]
    refine wpAnyH_take (i := 13) (v := ?_) rfl (by kernel_rfl) (by kernel_rfl) (by kernel_rfl) (fun _ _ _ h => h) (Or.inl ⟨by kernel_rfl, ?_⟩) (by assumption) ?_
    rotate_left 1
    · (intro w hSw; (try dsimp only at hSw); go_simp; try with_reducible rfl)
    try simp only [Act.put, List.getElem_toArray, List.getElem_cons_succ, List.getElem_cons_zero, List.setIfInBounds_toArray, List.set_cons_zero, List.set_cons_succ]
    refine wpAnyH_done (by kernel_rfl) ?_ _
    have hpc := pe_cells (blk_range HP.out) HQK.out
    have y0 := hpc.1
    have lp := HP.out.lt
    clear hpc lg lr
    go_wp2_with fail
    go_ret2
    exact ⟨by rw [← HQQ.out, ← HBQ.out]; rfl, Bt HB1.out HB3.out⟩
end Go.Proofs.Ytgmndppjdnpejaa
