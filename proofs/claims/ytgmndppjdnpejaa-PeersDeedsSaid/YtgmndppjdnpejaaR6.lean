/- The document's netmap: a copy of peers, of a netmap. -/
import Derived.Test.YtgmndppjdnpejaaR5
namespace Go.Proofs.Ytgmndppjdnpejaa
open Go.RowKit
set_option maxRecDepth 20000
set_option linter.unusedVariables false
set_option linter.unusedSimpArgs false

theorem infoP : (Try.prog.info? 43).map (fun i => (i.zero, i.size, i.bytes)) = some (some (.agg zPe.L.toArray), 36, 96) := by kernel_rfl
theorem own_ne {w : World} {b1 b2 n1 n2 s1 s2 : Nat} {e1 e2 : TypeId} {v1 v2 : Value} {x1 x2 : List Value} (h1 : w.ownsRow b1 e1 s1 v1 n1 x1) (h2 : w.ownsRow b2 e2 s2 v2 n2 x2) (hne : e1 ≠ e2) : ∀ k, v1.ownBlock = some k → ¬ v2.ownBlock = some k := by
  intro k h3 h4
  rcases h1.2 with ⟨rfl, _⟩ | ⟨g, cap, cur, rfl, _, hh, _⟩
  · cases h3
  · rcases h2.2 with ⟨rfl, _⟩ | ⟨g', cap', cur', rfl, _, hh', _⟩
    · cases h4
    · injection h3 with h3
      injection h4 with h4
      have e : g = g' := h3.trans h4.symm
      subst e
      rw [hh] at hh'
      injection hh' with hh'
      injection hh' with _ he
      exact hne he
theorem PeOwn.kept {w w' : World} {B : Nat} {T : Nat → Prop} {q : Pe} (h : PeOwn w B q) (hm : Mod T w w') (h1 : ∀ k, (Value.slice q.IA q.ins.length q.ic).ownBlock = some k → ¬ T k) (h2 : ∀ k, (Value.slice q.OA q.outs.length q.oc).ownBlock = some k → ¬ T k) : PeOwn w' B q :=
  ⟨own_mod h.1 hm h1 (Nat.le_refl _), own_mod h.2 hm h2 (Nat.le_refl _)⟩
theorem PeOwn.later {w w' : World} {B : Nat} {q : Pe} (h : PeOwn w B q) (hb : Below w.heap.size w w') : PeOwn w' B q := ⟨own_below h.1 hb, own_below h.2 hb⟩
theorem PeOwn.lower {w : World} {B C : Nat} {q : Pe} (h : PeOwn w B q) (hC : C ≤ B) : PeOwn w C q := ⟨own_mod h.1 (Mod.refl (fun _ => False) w) (fun _ _ h => h) hC, own_mod h.2 (Mod.refl (fun _ => False) w) (fun _ _ h => h) hC⟩
theorem PeOwn.at_ {w : World} {B : Nat} {q : Pe} (h : PeOwn w B q) (hk : q.ks.length = 32) (hb : Byt q.ks) : PeAt w (fun i => B ≤ i ∧ i < w.heap.size) q :=
  ⟨hk, hb, (Rd.of_own h.1).mono (fun i hi => ⟨own_ge h.1 i hi, own_lt h.1 i hi⟩), (Rd.of_own h.2).mono (fun i hi => ⟨own_ge h.2 i hi, own_lt h.2 i hi⟩)⟩
/-- Peers in a row of their own, with spans of their own. -/
def PsOwn (w : World) (B : Nat) (A : Option Addr) (n c : Nat) (qs : List Pe) : Prop := w.ownsRow B 43 36 (.slice A n c) n (rowP qs) ∧ ∀ q ∈ qs, PeOwn w B q
theorem PsOwn.later {w w' : World} {B n c : Nat} {A : Option Addr} {qs : List Pe} (h : PsOwn w B A n c qs) (hb : Below w.heap.size w w') : PsOwn w' B A n c qs := ⟨own_below h.1 hb, fun q hq => (h.2 q hq).later hb⟩
theorem PsOwn.kept {w w' : World} {B n c : Nat} {T : Nat → Prop} {A : Option Addr} {qs : List Pe} (h : PsOwn w B A n c qs) (hm : Mod T w w') (hT : ∀ i, T i → i < B) : PsOwn w' B A n c qs :=
  ⟨own_mod h.1 hm (fun k hk ht => by have := own_ge h.1 k hk; have := hT k ht; omega) (Nat.le_refl _), fun q hq => (h.2 q hq).kept hm (fun k hk ht => by have := own_ge (h.2 q hq).1 k hk; have := hT k ht; omega) (fun k hk ht => by have := own_ge (h.2 q hq).2 k hk; have := hT k ht; omega)⟩
theorem PsOwn.lower {w : World} {B C n c : Nat} {A : Option Addr} {qs : List Pe} (h : PsOwn w B A n c qs) (hC : C ≤ B) : PsOwn w C A n c qs := ⟨own_mod h.1 (Mod.refl (fun _ => False) w) (fun _ _ h => h) hC, fun q hq => (h.2 q hq).lower hC⟩
theorem rowP_snoc (qs : List Pe) (q : Pe) : rowP (qs ++ [q]) = rowP qs ++ q.L := by simp [rowP]
def CopyPsDid (ps : List Pe) (W : World) (e : Ending) (w' : World) : Prop := ∃ A c qs, e = .returned (.slice A ps.length c) ∧ qs.map Pe.px = ps.map Pe.px ∧ PsOwn w' W.heap.size A ps.length c qs ∧ Below W.heap.size W w'
set_option maxHeartbeats 4000000 in
theorem copypeers_any (S : Nat → Prop) (A : Option Addr) (cp : Nat) (ps : List Pe) (W : World) (hr : Rd W S 36 (.slice A ps.length cp) ps.length (rowP ps)) (he : ∀ p ∈ ps, PeAt W S p) (hS : ∀ i, S i → i < W.heap.size) (z0 : ps.length * 96 ≤ 140737488355328)
    (z1 : ∀ p ∈ ps, p.ins.length * 16 ≤ 140737488355328 ∧ p.outs.length * 16 ≤ 140737488355328) :
    Calls Try.prog 32 #[.slice A ps.length cp] W (CopyPsDid ps W) := by
  obtain ⟨i0, hi0, hz0, hz1, hz2⟩ := info_parts infoP
  have hcap := hr.cap.2
  have hc1 := hcap.1
  have hc2 := hcap.2
  unfold maxLen at hc2
  have HR := Lib.hid hr
  have HE := Lib.hid he
  have HS := Lib.hid hS
  have HZ := Lib.hid z1
  clear hr he hS z1 hcap
  go_enter Try.func32, Try.ntmps32
  go_wp2_with fail
  go_loopw [3, 4] (fun o i wr => ∃ (k : Nat) (B : Option Addr) (c : Nat) (qs : List Pe), k ≤ ps.length ∧ i = .int .i64 k ∧ o = .slice B k c ∧ qs.map Pe.px = (ps.take k).map Pe.px ∧ PsOwn wr W.heap.size B k c qs ∧ Below W.heap.size W wr) (fun _ i _ => ps.length - (intOf i).toNat)
  case atStart => exact ⟨0, none, 0, [], Nat.zero_le _, rfl, rfl, rfl, ⟨World.ownsRow_nil _ _ _ _, fun q hq => by simp at hq⟩, B0 _⟩
  case round =>
    obtain ⟨k, B, c, qs, hk, rfl, rfl, hpx, ho, hb⟩ := hrel
    obtain ⟨wv, rfl⟩ : ∃ wv, wv = wr := ⟨_, rfl⟩
    have HB := Lib.hid hb
    have HO := Lib.hid ho
    have HPX := Lib.hid hpx
    clear ho hpx
    by_cases hlt : k < ps.length
    · have hlt' : (k : Int) < (ps.length : Int) := by omega
      have hk0 : (0 : Int) ≤ (k : Int) := by omega
      obtain ⟨gp, op, hA, hgp, hra⟩ := row_at (HR.out.below hb HS.out) (rowP_n HE.out) hlt
      subst hA
      have HPE := Lib.hid ((HE.out _ (List.getElem_mem hlt)).below hb HS.out)
      have HZP := Lib.hid (HZ.out _ (List.getElem_mem hlt))
      obtain ⟨p, hp⟩ : ∃ p, p = ps[k] := ⟨_, rfl⟩
      rw [← hp] at hra HPE HZP
      have HP := Lib.hid hp
      have HRA := Lib.hid hra
      have HPL := Lib.hid (Pe.len HPE.out.k32)
      have HSV := Lib.hid (show ∀ i, S i → i < wv.heap.size from fun i hi => Nat.lt_of_lt_of_le (HS.out i hi) hb.size)
      clear hp hra hgp hb
      go_wp2_with (first | (refine step_load big_peer (by first | rfl | simp [Region.wanted, yielded]) (.tmp 14) rfl gp (op + k * 36) rfl p.L HPL.out HRA.out ?_) | fail)
      refine (copypeer_any S p wv HPE.out HSV.out HZP.out.1 HZP.out.2).mono ?_
      rintro e w2 ⟨q, rfl, hq, hqo, hb2⟩
      have HQ := Lib.hid hq
      have HB2 := Lib.hid hb2
      have HQK := Lib.hid (show q.ks.length = 32 from (congrArg (fun x : Px => x.ks.length) hq).trans HPE.out.k32)
      have HQL := Lib.hid (Pe.len HQK.out)
      have HO2 := Lib.hid (HO.out.later hb2)
      have HQO := Lib.hid hqo
      have hs0 := HB.out.size
      have hs2 := hb2.size
      clear hq hqo hb2
      go_wp2_with (first | (refine step_rows (t := 32) Try.underlying32 size_peer _ zero_peer (by omega) (by omega) (by first | rfl | simp [Region.wanted, yielded]) _ rfl [q.L] rfl (by intro x hx; rw [List.mem_singleton] at hx; rw [hx]; exact HQL.out) rfl q.L (by simp) ?_) | (at_builtin; refine wpList_append_rd _ rfl (.tmp 11) (.tmp 17) _ rfl W.heap.size 43 i0 _ 36 96 Try.underlying32 hi0 hz0 hz1 hz2 zPe_len (by omega) (.slice B k c) k (rowP qs) rfl (own_below HO2.out.1 (Ba (B0 w2) _)) (fun k => k = w2.heap.size) (.slice (some ⟨w2.heap.size, 0, none⟩) 1 1) 1 q.L rfl (Rd.box w2 43 q.L 36 HQL.out) q.one (by simp only [maxLen]; omega) (by omega) (by simp; omega) ?_; intro v4 w4 HA; obtain ⟨A4, c4, rfl⟩ := own_slice HA.own) | fail)
      go_roundw
      case rel =>
        have hm : Mod (fun i => (Value.slice B k c).ownBlock = some i) (w2.alloc (.cells q.L.toArray 43)) w4 := (Mod.refl _ _).grown HA.grown (fun i hi => .inl hi)
        have ho2 : PsOwn (w2.alloc (.cells q.L.toArray 43)) W.heap.size B k c qs := HO2.out.later (Ba (B0 w2) _)
        have hq2 : PeOwn (w2.alloc (.cells q.L.toArray 43)) W.heap.size q := (HQO.out.later (Ba (B0 w2) _)).lower hs0
        refine ⟨k + 1, A4, c4, qs ++ [q], by omega, by go_num, rfl, ?_, ⟨?_, fun r hr => ?_⟩, ?_⟩
        · rw [List.map_append, HPX.out, List.take_succ_eq_append_getElem hlt, List.map_append]
          have e : q.px = (ps[k]).px := by rw [← HP.out]; exact HQ.out
          simp [e]
        · rw [rowP_snoc]; exact HA.own
        · rcases List.mem_append.1 hr with h | h
          · exact (ho2.2 r h).kept hm (fun i h1 h2 => own_ne (ho2.2 r h).1 ho2.1 (by decide) i h1 h2) (fun i h1 h2 => own_ne (ho2.2 r h).2 ho2.1 (by decide) i h1 h2)
          · rw [List.mem_singleton] at h
            subst h
            exact hq2.kept hm (fun i h1 h2 => own_ne hq2.1 ho2.1 (by decide) i h1 h2) (fun i h1 h2 => own_ne hq2.2 ho2.1 (by decide) i h1 h2)
        · exact Bm (Ba (Bt HB.out HB2.out) _) hm (fun i hi => own_ge ho2.1 i hi)
      case measure => simp [intOf]; omega
    · obtain rfl : k = ps.length := by omega
      clear hb
      go_wp2_with fail
      go_ret
      exact ⟨B, c, qs, rfl, by rw [HPX.out, List.take_of_length_le (Nat.le_refl _)], HO.out, HB.out⟩
/-- The cells of a netmap, the peers' slice apart. -/
def nmL (ver clk nd : Int) (ks : List Int) (ex : Int) (v : Value) : List Value := .int .i64 ver :: .int .i64 clk :: .int .i64 nd :: (bts ks ++ [.int .i64 ex, v])
theorem nmL_set {ver clk nd ex : Int} {ks : List Int} (hk : ks.length = 32) (v u : Value) : (nmL ver clk nd ks ex v).toArray.setIfInBounds 36 u = (nmL ver clk nd ks ex u).toArray := by
  have hl : (bts ks).length = 32 := by rw [bts_length]; exact hk
  simp only [nmL, List.setIfInBounds_toArray]
  rw [show 36 = (32 + 1) + 1 + 1 + 1 by omega, List.set_cons_succ, List.set_cons_succ, List.set_cons_succ, List.set_append_right _ _ (by omega), hl]
  rfl
/-- Two netmaps that say the same. -/
structure NmEq (n m : Nm) : Prop where
  ver : n.ver = m.ver
  clock : n.clock = m.clock
  node : n.node = m.node
  ks : n.ks = m.ks
  ex : n.ex = m.ex
  ps : n.ps.map Pe.px = m.ps.map Pe.px
def CopyDid (m : Nm) (W : World) (e : Ending) (w' : World) : Prop := ∃ n : Nm, e = .returned n.v ∧ NmEq n m ∧ PsOwn w' W.heap.size n.PA n.ps.length n.pc n.ps ∧ Below W.heap.size W w'
set_option maxHeartbeats 4000000 in
theorem copy_any (S : Nat → Prop) (m : Nm) (W : World) (hm : NmAt W S m) (hS : ∀ i, S i → i < W.heap.size) (z0 : m.ps.length * 96 ≤ 140737488355328) (z1 : ∀ p ∈ m.ps, p.ins.length * 16 ≤ 140737488355328 ∧ p.outs.length * 16 ≤ 140737488355328) :
    Calls Try.prog 12 #[m.v] W (CopyDid m W) := by
  have hk := hm.k32
  obtain ⟨w1, hw1⟩ : ∃ u, u = (W.alloc (.cells m.L.toArray 34)).alloc (.cells zNm.L.toArray 34) := ⟨_, rfl⟩
  have HG := Lib.hid (show Blk w1 W.heap.size 34 m.L.toArray by rw [hw1]; exact (Blk.new W _ _).alloc _)
  have HR := Lib.hid (show Blk w1 (W.heap.size + 1) 34 zNm.L.toArray by rw [hw1]; exact Blk.new1 W _ _ _)
  have hb1 : Below W.heap.size W w1 := by rw [hw1]; exact Ba (Ba (B0 W) _) _
  have HB1 := Lib.hid hb1
  have HW1 := Lib.hid hw1
  have hsz1 : W.heap.size + 1 < w1.heap.size := HR.out.lt
  have HM := Lib.hid (hm.below hb1 hS)
  have HS := Lib.hid (show ∀ i, S i → i < w1.heap.size from fun i hi => Nat.lt_of_lt_of_le (hS i hi) hb1.size)
  have HK := Lib.hid hk
  have HMM := Lib.hid (show m.L = nmL m.ver m.clock m.node m.ks m.ex (.slice m.PA m.ps.length m.pc) from rfl)
  have HZL := Lib.hid (show zNm.L.length = 37 from Nm.len z32_len)
  have x36 := (nm_cells (blk_range HG.out) hk).2.2.2.2.2
  rw [Nat.zero_add] at x36
  have lg := HG.out.lt
  have HZ := Lib.hid z1
  clear hm hS hk hw1 hb1 z1
  go_enter Try.func12, Try.ntmps12
  go_upto_region 1 with fail
  change Code.wp _ _ _ _ ((W.alloc (.cells m.L.toArray 34)).alloc (.cells zNm.L.toArray 34))
  rw [← HW1.out]
  go_wp2_with fail
  refine (copypeers_any S m.PA m.pc m.ps w1 HM.out.rp HM.out.each HS.out z0 HZ.out).mono ?_
  rintro e w2 ⟨A2, c2, qs, rfl, hpx, ho, hb2⟩
  have HPX := Lib.hid hpx
  have HO := Lib.hid ho
  have HG2 := Lib.hid (HG.out.later hb2)
  have HR2 := Lib.hid (HR.out.later hb2)
  have HB2 := Lib.hid (Bt HB1.out hb2)
  have y36 := (nm_cells (blk_range HG2.out) HK.out).2.2.2.2.2
  rw [Nat.zero_add] at y36
  have f36 := HG2.out.frozen 36
  have lg2 := HG2.out.lt
  have hs12 := hb2.size
  clear hpx ho hb2
  go_upto_region 2 with fail
  obtain ⟨w3, hw3⟩ : ∃ u, u = w2.setCell ⟨W.heap.size, 36, none⟩ (.slice A2 m.ps.length c2) := ⟨_, rfl⟩
  rw [← hw3]
  have hm3 : Mod (fun i => i = W.heap.size) w2 w3 := by rw [hw3]; exact (Mod.refl (fun i => i = W.heap.size) w2).setCell (p := ⟨W.heap.size, 36, none⟩) (.inl rfl) _
  obtain ⟨n, hn⟩ : ∃ n : Nm, n = { m with PA := A2, pc := c2, ps := qs } := ⟨_, rfl⟩
  have hlen : qs.length = m.ps.length := px_len HPX.out
  have HG3 := Lib.hid (show Blk w3 W.heap.size 34 n.L.toArray by
    have h := HG2.out.set_ 36 (.slice A2 m.ps.length c2)
    rw [HMM.out, nmL_set HK.out] at h
    rw [hw3, show n.L = nmL m.ver m.clock m.node m.ks m.ex (.slice A2 m.ps.length c2) by rw [hn, ← hlen]; rfl]
    exact h)
  have HR3 := Lib.hid (HR2.out.kept hm3 (fun e => by omega))
  have HO3 := Lib.hid (HO.out.kept hm3 (fun i hi => by omega))
  have HB3 := Lib.hid (Bm HB2.out hm3 (fun i hi => by omega))
  have HNL := Lib.hid (show n.L.length = 37 by rw [hn]; exact Nm.len HK.out)
  have HNO := Lib.hid (show ∀ v ∈ n.L, v.oneCell' = true from n.one)
  have HN := Lib.hid hn
  have HLN := Lib.hid hlen
  clear x36 lg y36 f36 lg2 hw3 hm3 hn hlen
  go_wp2_with (first | (refine step_load big_map (by first | rfl | simp [Region.wanted, yielded]) (.tmp 1) rfl W.heap.size 0 rfl n.L HNL.out (blk_range HG3.out) ?_) | (refine step_store big_map rfl (.tmp 2) (.tmp 7) rfl (W.heap.size + 1) rfl n.L HNL.out HNO.out rfl 34 _ HR3.out (by simp [HZL.out]) ?_; intro w8 hb8 hm8 hs8; have HF := Lib.hid hb8; have HM8 := Lib.hid hm8; clear hb8 hm8 hs8) | fail)
  have hs1 := HB1.out.size
  refine bodyPost_ret (v := .agg n.L.toArray) (by simp [results, Try.results12, asAddr, Act.put, load_big big_map HF.out HNL.out]) rfl ?_
  refine ⟨n, rfl, by rw [HN.out]; exact ⟨rfl, rfl, rfl, rfl, rfl, HPX.out⟩, ?_, Bm HB3.out HM8.out (fun i hi => by omega)⟩
  have h := (HO3.out.kept HM8.out (fun i hi => by omega)).lower (C := W.heap.size) (by omega)
  rw [HN.out]
  show PsOwn w8 W.heap.size A2 qs.length c2 qs
  rw [HLN.out]
  exact h
end Go.Proofs.Ytgmndppjdnpejaa
