/- The document's netmap: a copy. -/
import Derived.Test.YtgmndppjdnpejaaR4
namespace Go.Proofs.Ytgmndppjdnpejaa
open Go.RowKit
set_option maxRecDepth 20000
set_option linter.unusedVariables false
set_option linter.unusedSimpArgs false

def peL (nd : Int) (ks : List Int) (ex : Int) (vi vo : Value) : List Value := .int .i64 nd :: (bts ks ++ [.int .i64 ex, vi, vo])
theorem peL_in {nd ex : Int} {ks : List Int} (hk : ks.length = 32) (vi vo v : Value) : (peL nd ks ex vi vo).toArray.setIfInBounds 34 v = (peL nd ks ex v vo).toArray := by
  have hl : (bts ks).length = 32 := by rw [bts_length]; exact hk
  simp only [peL, List.setIfInBounds_toArray]
  rw [show 34 = (32 + 1) + 1 by omega, List.set_cons_succ, List.set_append_right _ _ (by omega), hl]
  rfl
theorem peL_out {nd ex : Int} {ks : List Int} (hk : ks.length = 32) (vi vo v : Value) : (peL nd ks ex vi vo).toArray.setIfInBounds 35 v = (peL nd ks ex vi v).toArray := by
  have hl : (bts ks).length = 32 := by rw [bts_length]; exact hk
  simp only [peL, List.setIfInBounds_toArray]
  rw [show 35 = (32 + 2) + 1 by omega, List.set_cons_succ, List.set_append_right _ _ (by omega), hl]
  rfl
theorem peL_at {nd ex : Int} {ks : List Int} (hk : ks.length = 32) (vi vo : Value) : (peL nd ks ex vi vo).toArray[34]? = some vi ∧ (peL nd ks ex vi vo).toArray[35]? = some vo := by
  constructor
  · simp [peL, List.getElem?_append_right, hk, bts]
  · simp [peL, List.getElem?_append_right, hk, bts]
/-- A peer whose spans are its own: blocks from B on. -/
def PeOwn (w : World) (B : Nat) (q : Pe) : Prop := w.ownsRow B 45 2 (.slice q.IA q.ins.length q.ic) q.ins.length (rowS q.ins) ∧ w.ownsRow B 45 2 (.slice q.OA q.outs.length q.oc) q.outs.length (rowS q.outs)
def CopyPDid (p : Pe) (W : World) (e : Ending) (w' : World) : Prop := ∃ q : Pe, e = .returned q.v ∧ q.px = p.px ∧ PeOwn w' W.heap.size q ∧ Below W.heap.size W w'
set_option maxHeartbeats 4000000 in
theorem copypeer_any (S : Nat → Prop) (p : Pe) (W : World) (hp : PeAt W S p) (hS : ∀ i, S i → i < W.heap.size) (z1 : p.ins.length * 16 ≤ 140737488355328) (z2 : p.outs.length * 16 ≤ 140737488355328) :
    Calls Try.prog 47 #[p.v] W (CopyPDid p W) := by
  obtain ⟨i0, hi0, hz0, hz1, hz2⟩ := info_parts infoS
  have hk := hp.k32
  obtain ⟨w1, hw1⟩ : ∃ u, u = (W.alloc (.cells p.L.toArray 43)).alloc (.cells zPe.L.toArray 43) := ⟨_, rfl⟩
  have HG := Lib.hid (show Blk w1 W.heap.size 43 p.L.toArray by rw [hw1]; exact (Blk.new W _ _).alloc _)
  have HR := Lib.hid (show Blk w1 (W.heap.size + 1) 43 zPe.L.toArray by rw [hw1]; exact Blk.new1 W _ _ _)
  have hb1 : Below W.heap.size W w1 := by rw [hw1]; exact Ba (Ba (B0 W) _) _
  have HB1 := Lib.hid hb1
  have HW1 := Lib.hid hw1
  have hsz1 : W.heap.size + 1 < w1.heap.size := HR.out.lt
  have HP := Lib.hid hp
  have HS := Lib.hid hS
  have HPL := Lib.hid (Pe.len hk)
  have HK := Lib.hid hk
  have HPP := Lib.hid (show p.L = peL p.nd p.ks p.ex (.slice p.IA p.ins.length p.ic) (.slice p.OA p.outs.length p.oc) from rfl)
  clear hp hS hk hw1 hb1
  go_enter Try.func47, Try.ntmps47
  go_upto_region 1 with fail
  change Code.wp _ _ _ _ ((W.alloc (.cells p.L.toArray 43)).alloc (.cells zPe.L.toArray 43))
  rw [← HW1.out]
  go_upto_region 2 with (first | (refine step_load big_peer (by first | rfl | simp [Region.wanted, yielded]) (.tmp 1) rfl W.heap.size 0 rfl p.L HPL.out (blk_range HG.out) ?_) | (refine step_store big_peer rfl (.tmp 3) (.tmp 4) rfl w1.heap.size rfl p.L HPL.out p.one rfl 43 _ (Blk.new w1 43 _) rfl ?_; intro w2 hb2 hm2 hs2; have HP2 := Lib.hid hb2; have HM2 := Lib.hid hm2; clear hb2 hm2 hs2) | fail)
  have hb2 : Below w1.heap.size w1 w2 := Bm (Ba (B0 w1) _) HM2.out (fun i hi => by omega)
  have a34 := (HP2.out.cell 34).trans (show p.L.toArray[34]? = some (.slice p.IA p.ins.length p.ic) from (congrArg (fun l : List Value => l.toArray[34]?) HPP.out).trans (peL_at HK.out _ _).1)
  have a35 := (HP2.out.cell 35).trans (show p.L.toArray[35]? = some (.slice p.OA p.outs.length p.oc) from (congrArg (fun l : List Value => l.toArray[35]?) HPP.out).trans (peL_at HK.out _ _).2)
  have f34 := HP2.out.frozen 34
  have f35 := HP2.out.frozen 35
  have l2 := HP2.out.lt
  go_upto_region 4 with fail
  obtain ⟨w3, hw3⟩ : ∃ u, u = (w2.setCell ⟨w1.heap.size, 34, none⟩ (.slice none 0 0)).setCell ⟨w1.heap.size, 35, none⟩ (.slice none 0 0) := ⟨_, rfl⟩
  rw [← hw3]
  have hm3 : Mod (fun i => i = w1.heap.size) w2 w3 := by rw [hw3]; exact ((Mod.refl (fun i => i = w1.heap.size) w2).setCell (p := ⟨w1.heap.size, 34, none⟩) (.inl rfl) _).setCell (p := ⟨w1.heap.size, 35, none⟩) (.inl rfl) _
  have HB3 := Lib.hid (show Below w1.heap.size w1 w3 from Bm hb2 hm3 (fun i hi => by omega))
  have HP3 := Lib.hid (show Blk w3 w1.heap.size 43 (peL p.nd p.ks p.ex (.slice none 0 0) (.slice none 0 0)).toArray by
    have h := (HP2.out.set_ 34 (.slice none 0 0)).set_ 35 (.slice none 0 0)
    rw [HPP.out, peL_in HK.out, peL_out HK.out] at h
    rw [hw3]
    exact h)
  have HG3 := Lib.hid (HG.out.later HB3.out)
  have HR3 := Lib.hid (HR.out.later HB3.out)
  clear hb2 a34 a35 f34 f35 l2 hw3 hm3 HP2 HM2
  have a34 := (HP3.out.cell 34).trans (peL_at HK.out _ _).1
  have f34 := HP3.out.frozen 34
  have l3 := HP3.out.lt
  have x34 := (HG3.out.cell 34).trans (show p.L.toArray[34]? = some (.slice p.IA p.ins.length p.ic) from (congrArg (fun l : List Value => l.toArray[34]?) HPP.out).trans (peL_at HK.out _ _).1)
  have lg3 := HG3.out.lt
  have HPE3 := Lib.hid ((HP.out.below HB1.out HS.out).below HB3.out (fun i hi => by have := HS.out i hi; omega))
  go_upto_region 5 with (first | (at_builtin; refine wpList_append_rd _ rfl (.tmp 8) (.tmp 10) _ rfl w3.heap.size 45 i0 _ 2 16 Try.underlying41 hi0 hz0 hz1 hz2 rfl (by omega) (.slice none 0 0) 0 [] rfl (World.ownsRow_nil _ _ _ _) S (.slice p.IA p.ins.length p.ic) p.ins.length (rowS p.ins) rfl HPE3.out.ri (rowS_one p.ins) (by simp only [maxLen]; omega) (by omega) (Nat.le_refl _) ?_; intro v4 w4 HA; obtain ⟨A4, c4, rfl⟩ := own_slice HA.own; simp only [Nat.zero_add, List.nil_append] at HA; have a4 := (HP3.out.grown HA.grown (by simp [Value.ownBlock])).cell 34; have f4 := (HP3.out.grown HA.grown (by simp [Value.ownBlock])).frozen 34; rw [(peL_at HK.out _ _).1] at a4; have l4 := (HP3.out.grown HA.grown (by simp [Value.ownBlock])).lt) | fail)
  have hb4 : Below w3.heap.size w3 w4 := (B0 w3).grown HA.grown (Nat.le_refl _) (by simp [Value.ownBlock])
  have HO4 := Lib.hid HA.own
  have HP4 := Lib.hid (HP3.out.later hb4)
  obtain ⟨w5, hw5⟩ : ∃ u, u = w4.setCell ⟨w1.heap.size, 34, none⟩ (.slice A4 p.ins.length c4) := ⟨_, rfl⟩
  rw [← hw5]
  have hm5 : Mod (fun i => i = w1.heap.size) w4 w5 := by rw [hw5]; exact (Mod.refl (fun i => i = w1.heap.size) w4).setCell (p := ⟨w1.heap.size, 34, none⟩) (.inl rfl) _
  have HB5 := Lib.hid (show Below w1.heap.size w1 w5 from Bm (Bt HB3.out hb4) hm5 (fun i hi => by omega))
  have HP5 := Lib.hid (show Blk w5 w1.heap.size 43 (peL p.nd p.ks p.ex (.slice A4 p.ins.length c4) (.slice none 0 0)).toArray by
    have h := HP4.out.set_ 34 (.slice A4 p.ins.length c4)
    rw [peL_in HK.out] at h
    rw [hw5]
    exact h)
  have hl35 : w3.heap.size ≤ w4.heap.size := hb4.size
  have HO5 := Lib.hid (own_mod HO4.out hm5 (fun k hk e => by have := own_ge HO4.out k hk; omega) (Nat.le_refl _))
  have HG5 := Lib.hid (HG.out.later HB5.out)
  have HR5 := Lib.hid (HR.out.later HB5.out)
  have HS5 := Lib.hid (show w3.heap.size ≤ w5.heap.size by rw [hw5]; simpa using hl35)
  clear a34 f34 l3 x34 lg3 a4 f4 l4 hb4 hm5 hw5 hl35
  have b35 := (HP5.out.cell 35).trans (peL_at HK.out _ _).2
  have x35 := (HG5.out.cell 35).trans (show p.L.toArray[35]? = some (.slice p.OA p.outs.length p.oc) from (congrArg (fun l : List Value => l.toArray[35]?) HPP.out).trans (peL_at HK.out _ _).2)
  have lg5 := HG5.out.lt
  have lp5 := HP5.out.lt
  have HPE5 := Lib.hid ((HP.out.below HB1.out HS.out).below HB5.out (fun i hi => by have := HS.out i hi; omega))
  go_upto_region 6 with (first | (at_builtin; refine wpList_append_rd _ rfl (.tmp 14) (.tmp 16) _ rfl w5.heap.size 45 i0 _ 2 16 Try.underlying41 hi0 hz0 hz1 hz2 rfl (by omega) (.slice none 0 0) 0 [] rfl (World.ownsRow_nil _ _ _ _) S (.slice p.OA p.outs.length p.oc) p.outs.length (rowS p.outs) rfl HPE5.out.ro (rowS_one p.outs) (by simp only [maxLen]; omega) (by omega) (Nat.le_refl _) ?_; intro v6 w6 HA; obtain ⟨A6, c6, rfl⟩ := own_slice HA.own; simp only [Nat.zero_add, List.nil_append] at HA; have a6 := (HP5.out.grown HA.grown (by simp [Value.ownBlock])).cell 35; have f6 := (HP5.out.grown HA.grown (by simp [Value.ownBlock])).frozen 35; rw [(peL_at HK.out _ _).2] at a6; have l6 := (HP5.out.grown HA.grown (by simp [Value.ownBlock])).lt) | fail)
  have hb6 : Below w5.heap.size w5 w6 := (B0 w5).grown HA.grown (Nat.le_refl _) (by simp [Value.ownBlock])
  have HO6 := Lib.hid HA.own
  have HP6 := Lib.hid (HP5.out.later hb6)
  obtain ⟨w7, hw7⟩ : ∃ u, u = w6.setCell ⟨w1.heap.size, 35, none⟩ (.slice A6 p.outs.length c6) := ⟨_, rfl⟩
  rw [← hw7]
  have hm7 : Mod (fun i => i = w1.heap.size) w6 w7 := by rw [hw7]; exact (Mod.refl (fun i => i = w1.heap.size) w6).setCell (p := ⟨w1.heap.size, 35, none⟩) (.inl rfl) _
  have hm57 : Mod (fun i => i = w1.heap.size) w5 w7 := (Mod.of_below (S := fun i => i = w1.heap.size) hb6).trans hm7 (fun i hi => .inl hi)
  obtain ⟨q, hq⟩ : ∃ q : Pe, q = { p with IA := A4, ic := c4, OA := A6, oc := c6 } := ⟨_, rfl⟩
  have HB7 := Lib.hid (show Below w1.heap.size w1 w7 from Bm HB5.out hm57 (fun i hi => by omega))
  have HP7 := Lib.hid (show Blk w7 w1.heap.size 43 q.L.toArray by
    have h := HP6.out.set_ 35 (.slice A6 p.outs.length c6)
    rw [peL_out HK.out] at h
    rw [hw7, hq]
    exact h)
  have HO7 := Lib.hid (own_mod HO5.out hm57 (fun k hk e => by have := own_ge HO5.out k hk; have := HB3.out.size; have := HP3.out.lt; omega) (Nat.le_refl _))
  have HQ7 := Lib.hid (own_mod HO6.out hm7 (fun k hk e => by have := own_ge HO6.out k hk; omega) (Nat.le_refl _))
  have HR7 := Lib.hid (HR5.out.kept hm57 (fun e => by omega))
  have HQL := Lib.hid (show q.L.length = 36 by rw [hq]; exact Pe.len HK.out)
  have HQO := Lib.hid (show ∀ v ∈ q.L, v.oneCell' = true from q.one)
  have HQQ := Lib.hid hq
  have hs35 : w1.heap.size < w3.heap.size := HP3.out.lt
  have hs5 : w3.heap.size ≤ w5.heap.size := HS5.out
  clear b35 x35 lg5 lp5 a6 f6 l6 hb6 hm7 hm57 hw7 hq HA
  go_wp2_with (first | (refine step_load big_peer (by first | rfl | simp [Region.wanted, yielded]) (.tmp 3) rfl w1.heap.size 0 rfl q.L HQL.out (blk_range HP7.out) ?_) | (refine step_store big_peer rfl (.tmp 2) (.tmp 19) rfl (W.heap.size + 1) rfl q.L HQL.out HQO.out rfl 43 _ HR7.out (by simp [zPe_len]) ?_; intro w8 hb8 hm8 hs8; have HF := Lib.hid hb8; have HM8 := Lib.hid hm8; clear hb8 hm8 hs8) | fail)
  have hs1 := HB1.out.size
  refine bodyPost_ret (v := .agg q.L.toArray) (by simp [results, Try.results47, asAddr, Act.put, load_big big_peer HF.out HQL.out]) rfl ?_
  refine ⟨q, rfl, by rw [HQQ.out]; rfl, ⟨?_, ?_⟩, Bm (Bt HB1.out (HB7.out.mono (Nat.le_refl _))) HM8.out (fun i hi => by omega)⟩
  · rw [HQQ.out]
    exact own_mod HO7.out HM8.out (fun k hk e => by have := own_ge HO7.out k hk; omega) (by omega)
  · rw [HQQ.out]
    exact own_mod HQ7.out HM8.out (fun k hk e => by have := own_ge HQ7.out k hk; omega) (by omega)
end Go.Proofs.Ytgmndppjdnpejaa
