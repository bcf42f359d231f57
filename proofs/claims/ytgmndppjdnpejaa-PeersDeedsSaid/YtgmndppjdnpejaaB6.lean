/- May a netmap's head be, with these peers? -/
import Derived.Test.YtgmndppjdnpejaaB5
import Derived.Deep.Cut
import Derived.Deep.CutBlock
import Derived.Deep.CutRange
namespace Go.Proofs.Ytgmndppjdnpejaa
open Go.RowKit
set_option maxRecDepth 20000
set_option linter.unusedVariables false
set_option linter.unusedSimpArgs false

def peB (c n t : Int) (kl : List (List Int)) (p : Pe) : Bool :=
  (decide (t < p.nd) && (ndB p.nd && (!(p.nd == n) && !(kl.contains p.ks)))) && ((nuB p.ex && decide (c < p.ex)) && (spB p.ins && (spB p.outs && decide (0 < p.ins.length + p.outs.length))))
def goB (c n : Int) : Int → List (List Int) → List Pe → Bool
  | _, _, [] => true
  | t, kl, p :: ps => peB c n t kl p && goB c n p.nd (kl ++ [p.ks]) ps
theorem goB_next {c n t : Int} {kl : List (List Int)} {ps : List Pe} {k : Nat} (hk : k < ps.length) : goB c n t kl (ps.drop k) = (peB c n t kl ps[k] && goB c n (ps[k]).nd (kl ++ [(ps[k]).ks]) (ps.drop (k + 1))) := by
  rw [List.drop_eq_getElem_cons hk]; rfl
def mayB (h : Hd) (ps : List Pe) : Bool :=
  nuB h.clock && (ndB h.node && (if h.ks = z32 then (h.ex == 0 && ps.length == 0) else nuB h.ex && (decide (h.clock < h.ex) && goB h.clock h.node 0 [z32, h.ks] ps)))
theorem ndB_le {n : Int} (h : ndB n = true) : 1 ≤ n ∧ n ≤ 8 := by simpa [ndB] using h
theorem spB_len {l : List Sp} (h : spB l = true) : l.length ≤ 33 := by
  unfold spB at h
  rw [Bool.and_eq_true] at h
  have := h.2
  simp at this
  omega
theorem rowP_n {ps : List Pe} {w : World} {S : Nat → Prop} (h : ∀ p ∈ ps, PeAt w S p) : ∀ p ∈ ps, p.L.length = 36 := fun p hp => Pe.len (h p hp).k32
theorem rowK_snoc (kl : List (List Int)) (x : List Int) : rowK (kl ++ [x]) = rowK kl ++ bts x := by simp [rowK]
theorem bts_one' (xs : List Int) : ∀ u ∈ bts xs, u.oneCell' = true := by
  intro u hu
  obtain ⟨x, _, rfl⟩ := List.mem_map.1 hu
  rfl

/-- What the loop over the peers keeps: the keys so far, the last node. -/
def KeysAt (w wr : World) (h : Hd) (ps : List Pe) (k : Nat) (t : Int) (A6 : Option Addr) (c6 : Nat) (kl : List (List Int)) : Prop :=
  k ≤ ps.length ∧ (k : Int) ≤ t ∧ t ≤ 8 ∧ kl.length = k + 2 ∧ (∀ x ∈ kl, x.length = 32) ∧ wr.ownsRow w.heap.size 31 32 (.slice A6 kl.length c6) kl.length (rowK kl) ∧ (∀ i, (Value.slice A6 kl.length c6).ownBlock = some i → w.heap.size < i) ∧
    goB h.clock h.node 0 [z32, h.ks] ps = goB h.clock h.node t kl (ps.drop k) ∧ Below w.heap.size w wr ∧ Blk wr w.heap.size 79 h.L.toArray
set_option maxHeartbeats 8000000 in
theorem may_any (S : Nat → Prop) (h : Hd) (A : Option Addr) (c : Nat) (ps : List Pe) (w : World) (hk : h.ks.length = 32) (hr : Rd w S 36 (.slice A ps.length c) ps.length (rowP ps)) (he : ∀ p ∈ ps, PeAt w S p) (hS : ∀ i, S i → i < w.heap.size) :
    Calls Try.prog 44 #[h.v, .slice A ps.length c] w fun e w' => e = .returned (.bool (mayB h ps)) ∧ Below w.heap.size w w' := by
  have hcap := hr.cap.2
  have hc1 := hcap.1
  have hc2 := hcap.2
  unfold maxLen at hc2
  obtain ⟨i0, hi0, hz0, hz1, hz2⟩ := info_parts infoK
  have HK := Lib.hid hk
  have HR := Lib.hid hr
  have HE := Lib.hid he
  have HS := Lib.hid hS
  have HLK := Lib.hid (show (bts h.ks).length = 32 by rw [bts_length]; exact hk)
  have HLZ := Lib.hid (show (bts z32).length = 32 by rw [bts_length]; exact z32_len)
  obtain ⟨w0, hw0⟩ : ∃ u, u = ((w.alloc (.cells h.L.toArray 79)).alloc (.cells (bts z32).toArray 31)) := ⟨_, rfl⟩
  have HH := Lib.hid (show Blk w0 w.heap.size 79 h.L.toArray by rw [hw0]; exact (Blk.new w _ _).alloc _)
  have HZ := Lib.hid (show Blk w0 (w.heap.size + 1) 31 (bts z32).toArray by rw [hw0]; exact Blk.new1 w _ _ _)
  obtain ⟨x0, x1, x2, x34⟩ := hd_cells (blk_range HH.out) hk
  simp only [Nat.zero_add] at x0 x1 x2 x34
  have HX2 := Lib.hid x2
  have HBB := Lib.hid (show Below w.heap.size w w0 by rw [hw0]; exact Ba (Ba (B0 w) _) _)
  have lh := HH.out.lt
  have lz := HZ.out.lt
  have HMB := Lib.hid (show mayB h ps = (nuB h.clock && (ndB h.node && (if h.ks = z32 then (h.ex == 0 && ps.length == 0) else nuB h.ex && (decide (h.clock < h.ex) && goB h.clock h.node 0 [z32, h.ks] ps)))) from rfl)
  have HW0 := Lib.hid hw0
  clear hk hr he hS hcap x2 hw0
  go_enter Try.func44, Try.ntmps44
  go_upto_block 0 with fail
  change Code.wp _ _ _ _ ((w.alloc (.cells h.L.toArray 79)).alloc (.cells (bts z32).toArray 31))
  rw [← HW0.out]
  cases n1 : nuB h.clock
  · have HN1 := Lib.hid n1
    clear n1
    go_wp2_with (go_at_call 43; refine (number_is HN1.out _).mono ?_; rintro e w' ⟨rfl, rfl⟩)
    go_ret
    exact ⟨ret_bool (by rw [HMB.out, HN1.out]; rfl), HBB.out⟩
  · have HN1 := Lib.hid n1
    clear n1
    cases n2 : ndB h.node
    · have HN2 := Lib.hid n2
      clear n2
      go_wp2_with (first | (go_at_call 43; refine (number_is HN1.out _).mono ?_; rintro e w' ⟨rfl, rfl⟩) | (go_at_call 56; refine (node_is HN2.out _).mono ?_; rintro e w' ⟨rfl, rfl⟩))
      go_ret
      exact ⟨ret_bool (by rw [HMB.out, HN1.out, HN2.out]; rfl), HBB.out⟩
    · have HN2 := Lib.hid n2
      clear n2
      by_cases hz : h.ks = z32
      · have HQ := Lib.hid hz
        have HM2 : Hid (mayB h ps = (h.ex == 0 && ps.length == 0)) := Lib.hid (by rw [HMB.out, HN1.out, HN2.out, if_pos HQ.out]; rfl)
        clear hz
        by_cases q0 : h.ex = 0
        · have q0' : (h.ex == 0) = true := by simp [q0]
          have HQ0 := Lib.hid q0'
          clear q0
          go_wp2_with (first | (go_at_call 43; refine (number_is HN1.out _).mono ?_; rintro e w' ⟨rfl, rfl⟩) | (go_at_call 56; refine (node_is HN2.out _).mono ?_; rintro e w' ⟨rfl, rfl⟩) | (refine step_load big_key rfl (.tmp 22) rfl w.heap.size 2 rfl (bts h.ks) HLK.out HX2.out ?_) | (refine step_load big_key rfl (.tmp 5) rfl (w.heap.size + 1) 0 rfl (bts z32) HLZ.out (blk_range HZ.out) ?_) | (refine step_eqK rfl .eql (.inl rfl) (.tmp 23) (.tmp 24) rfl h.ks z32 rfl rfl HK.out z32_len true (by rw [if_pos rfl, HQ.out]; simp) ?_))
          go_ret
          refine ⟨ret_bool ?_, HBB.out⟩
          rw [HM2.out, HQ0.out, Bool.true_and]
          cases ps <;> simp
          omega
        · have q0' : (h.ex == 0) = false := by simp [q0]
          have HQ0 := Lib.hid q0'
          clear q0
          go_wp2_with (first | (go_at_call 43; refine (number_is HN1.out _).mono ?_; rintro e w' ⟨rfl, rfl⟩) | (go_at_call 56; refine (node_is HN2.out _).mono ?_; rintro e w' ⟨rfl, rfl⟩) | (refine step_load big_key rfl (.tmp 22) rfl w.heap.size 2 rfl (bts h.ks) HLK.out HX2.out ?_) | (refine step_load big_key rfl (.tmp 5) rfl (w.heap.size + 1) 0 rfl (bts z32) HLZ.out (blk_range HZ.out) ?_) | (refine step_eqK rfl .eql (.inl rfl) (.tmp 23) (.tmp 24) rfl h.ks z32 rfl rfl HK.out z32_len true (by rw [if_pos rfl, HQ.out]; simp) ?_))
          go_ret
          exact ⟨ret_bool (by rw [HM2.out, HQ0.out]; rfl), HBB.out⟩
      · have HQ : Hid ((h.ks == z32) = false) := Lib.hid (by simpa using hz)
        have HM2 : Hid (mayB h ps = (nuB h.ex && (decide (h.clock < h.ex) && goB h.clock h.node 0 [z32, h.ks] ps))) := Lib.hid (by rw [HMB.out, HN1.out, HN2.out, if_neg hz]; rfl)
        clear hz
        cases n3 : nuB h.ex
        · have HN3 := Lib.hid n3
          clear n3
          go_wp2_with (first | (go_at_call_of 43 h.clock; refine (number_is HN1.out _).mono ?_; rintro e w' ⟨rfl, rfl⟩) | (go_at_call_of 43 h.ex; refine (number_is HN3.out _).mono ?_; rintro e w' ⟨rfl, rfl⟩) | (go_at_call 56; refine (node_is HN2.out _).mono ?_; rintro e w' ⟨rfl, rfl⟩) | (refine step_load big_key rfl (.tmp 22) rfl w.heap.size 2 rfl (bts h.ks) HLK.out HX2.out ?_) | (refine step_load big_key rfl (.tmp 5) rfl (w.heap.size + 1) 0 rfl (bts z32) HLZ.out (blk_range HZ.out) ?_) | (refine step_eqK rfl .eql (.inl rfl) (.tmp 23) (.tmp 24) rfl h.ks z32 rfl rfl HK.out z32_len false (by rw [if_pos rfl, HQ.out]) ?_) | fail)
          go_ret
          exact ⟨ret_bool (by rw [HM2.out, HN3.out]; rfl), HBB.out⟩
        · have HN3 := Lib.hid n3
          clear n3
          by_cases q5 : h.ex ≤ h.clock
          · go_wp2_with (first | (go_at_call_of 43 h.clock; refine (number_is HN1.out _).mono ?_; rintro e w' ⟨rfl, rfl⟩) | (go_at_call_of 43 h.ex; refine (number_is HN3.out _).mono ?_; rintro e w' ⟨rfl, rfl⟩) | (go_at_call 56; refine (node_is HN2.out _).mono ?_; rintro e w' ⟨rfl, rfl⟩) | (refine step_load big_key rfl (.tmp 22) rfl w.heap.size 2 rfl (bts h.ks) HLK.out HX2.out ?_) | (refine step_load big_key rfl (.tmp 5) rfl (w.heap.size + 1) 0 rfl (bts z32) HLZ.out (blk_range HZ.out) ?_) | (refine step_eqK rfl .eql (.inl rfl) (.tmp 23) (.tmp 24) rfl h.ks z32 rfl rfl HK.out z32_len false (by rw [if_pos rfl, HQ.out]) ?_) | fail)
            go_ret
            exact ⟨ret_bool (by rw [HM2.out, decide_eq_false (p := h.clock < h.ex) (by omega)]; simp), HBB.out⟩
          · have HM3 : Hid (mayB h ps = goB h.clock h.node 0 [z32, h.ks] ps) := Lib.hid (by rw [HM2.out, HN3.out, decide_eq_true (p := h.clock < h.ex) (by omega)]; rfl)
            go_wp2_with (first | (go_at_call_of 43 h.clock; refine (number_is HN1.out _).mono ?_; rintro e w' ⟨rfl, rfl⟩) | (go_at_call_of 43 h.ex; refine (number_is HN3.out _).mono ?_; rintro e w' ⟨rfl, rfl⟩) | (go_at_call 56; refine (node_is HN2.out _).mono ?_; rintro e w' ⟨rfl, rfl⟩) | (refine step_load big_key rfl (.tmp 22) rfl w.heap.size 2 rfl (bts h.ks) HLK.out HX2.out ?_) | (refine step_load big_key rfl (.tmp 5) rfl (w.heap.size + 1) 0 rfl (bts z32) HLZ.out (blk_range HZ.out) ?_) | (refine step_eqK rfl .eql (.inl rfl) (.tmp 23) (.tmp 24) rfl h.ks z32 rfl rfl HK.out z32_len false (by rw [if_pos rfl, HQ.out]) ?_) | (refine step_load big_key rfl (.tmp 47) rfl w.heap.size 2 rfl (bts h.ks) HLK.out HX2.out ?_) | (refine step_rows Try.underlying89 size_key _ zero_key (by omega) (by omega) rfl _ rfl [bts z32, bts h.ks] rfl (by intro v hv; rcases List.mem_cons.1 hv with rfl | hv; exact HLZ.out; rw [List.mem_singleton] at hv; rw [hv]; exact HLK.out) rfl (bts z32 ++ bts h.ks) (by simp) ?_) | fail)
            have hrk : rowK [z32, h.ks] = bts z32 ++ bts h.ks := by simp [rowK]
            have HO0 := Lib.hid (show (w0.alloc (.cells (bts z32 ++ bts h.ks).toArray 31)).ownsRow w.heap.size 31 32 (.slice (some ⟨w0.heap.size, 0, none⟩) 2 2) 2 (rowK [z32, h.ks]) by rw [hrk]; exact own_rows (by simp [bts, z32_len, HK.out]) (by unfold maxLen; omega) _ (by omega))
            clear hrk
            clear q5 x0 x1 x34
            go_loopw [6, 7, 52] (fun ky la i wr => ∃ (k : Nat) (t : Int) (A6 : Option Addr) (c6 : Nat) (kl : List (List Int)), i = .int .i64 k ∧ la = .int .i64 t ∧ ky = .slice A6 kl.length c6 ∧ KeysAt w wr h ps k t A6 c6 kl) (fun _ _ i _ => ps.length - (intOf i).toNat)
            case atStart => exact ⟨0, 0, some ⟨w0.heap.size, 0, none⟩, 2, [z32, h.ks], rfl, rfl, rfl, Nat.zero_le _, by omega, by omega, rfl, by intro x hx; rcases List.mem_cons.1 hx with rfl | hx; exact z32_len; rw [List.mem_singleton] at hx; rw [hx]; exact HK.out, HO0.out, by intro i hi; injection hi with hi; have : w0.heap.size = i := hi; omega, by simp, Ba HBB.out _, HH.out.alloc _⟩
            case round =>
              obtain ⟨k, t, A6, c6, kl, rfl, rfl, rfl, hka⟩ := hrel
              obtain ⟨wv, rfl⟩ : ∃ wv, wv = wr := ⟨_, rfl⟩
              obtain ⟨hk, ht0, ht8, hkl, hk32, ho, hob, hgo, hb, hh⟩ := hka
              have HBV := Lib.hid hb
              have HO := Lib.hid ho
              have HOB := Lib.hid hob
              have HHV := Lib.hid hh
              have HK32 := Lib.hid hk32
              have HKL := Lib.hid hkl
              clear ho hob hh hk32 hkl HO0
              by_cases hlt : k < ps.length
              · have hlt' : (k : Int) < (ps.length : Int) := by omega
                have hk0 : (0 : Int) ≤ (k : Int) := by omega
                obtain ⟨gp, op, hA, hgS, hra⟩ := row_at (HR.out.below hb HS.out) (rowP_n HE.out) hlt
                subst hA
                obtain ⟨p, hp⟩ : ∃ p, p = ps[k] := ⟨_, rfl⟩
                rw [← hp] at hra
                have HRA := Lib.hid hra
                have HPE := Lib.hid (show PeAt wv S p by rw [hp]; exact (HE.out _ (List.getElem_mem hlt)).below hb HS.out)
                have HPL := Lib.hid (show p.L.length = 36 from Pe.len HPE.out.k32)
                have HLP := Lib.hid (show (bts p.ks).length = 32 by rw [bts_length]; exact HPE.out.k32)
                rw [goB_next hlt, ← hp] at hgo
                have HGO := Lib.hid hgo
                have HF : Hid (peB h.clock h.node t kl p = false → mayB h ps = false) := Lib.hid (fun hf => by rw [HM3.out, HGO.out, hf]; rfl)
                clear hra hp hgo hb hgS
                go_upto_block 3 with (first | (refine step_load big_peer rfl (.tmp 54) rfl gp (op + k * 36) rfl p.L HPL.out HRA.out ?_) | (refine step_store big_peer rfl (.tmp 9) (.tmp 55) rfl wv.heap.size rfl p.L HPL.out p.one rfl 43 _ (Blk.new wv 43 _) rfl ?_; intro wp hbp hmp hsp; have HBP := Lib.hid hbp; have HMP := Lib.hid hmp; clear hbp hmp hsp) | fail)
                have hbe : Below wv.heap.size wv wp := Bm (Ba (B0 wv) _) HMP.out (fun i hi => by omega)
                have HPB := HBP
                have HBE := HBV
                replace HHV := Lib.hid (HHV.out.later hbe)
                replace HO := Lib.hid (own_below HO.out hbe)
                replace HPE := Lib.hid (HPE.out.below hbe (fun i hi => Nat.lt_of_lt_of_le (HS.out i hi) HBE.out.size))
                replace HBE := Lib.hid (Bt HBE.out hbe)
                clear hbe HMP HBP HRA
                have y0 : wp.cell? ⟨wv.heap.size, 0, none⟩ = some (.int .i64 p.nd) := (pe_cells (blk_range HPB.out) HPE.out.k32).1
                have hpc := pe_cells (blk_range HPB.out) HPE.out.k32
                simp only [Nat.zero_add] at hpc
                have y33 := hpc.2.2.1
                have y34 := hpc.2.2.2.1
                have y35 := hpc.2.2.2.2
                have HPK := Lib.hid hpc.2.1
                have hhc := hd_cells (blk_range HHV.out) HK.out
                simp only [Nat.zero_add] at hhc
                have x0 := hhc.1
                have x1 := hhc.2.1
                have lp := HPB.out.lt
                have lh := HHV.out.lt
                clear hpc hhc
                by_cases q1 : p.nd ≤ t
                · go_wp2_with fail
                  go_ret
                  exact ⟨ret_bool (HF.out (by unfold peB; rw [decide_eq_false (p := t < p.nd) (by omega)]; simp)).symm, HBE.out⟩
                · cases hpn : ndB p.nd
                  · have HPN := Lib.hid hpn
                    clear hpn
                    go_wp2_with (first | (go_at_call 56; refine (node_is HPN.out _).mono ?_; rintro e w' ⟨rfl, rfl⟩) | fail)
                    go_ret
                    exact ⟨ret_bool (HF.out (by unfold peB; rw [HPN.out]; simp)).symm, HBE.out⟩
                  · obtain ⟨hp1, hp8⟩ := ndB_le hpn
                    have HPN := Lib.hid hpn
                    clear hpn
                    cases q3 : (p.nd == h.node)
                    · have HQ3 := Lib.hid q3
                      go_wp2_with (first | (go_at_call 56; refine (node_is HPN.out _).mono ?_; rintro e w' ⟨rfl, rfl⟩) | (refine step_load big_key (by first | rfl | simp [Region.wanted, yielded]) (.tmp 76) rfl wv.heap.size 1 rfl (bts p.ks) HLP.out HPK.out ?_) | fail)
                      refine (contains_any _ _ _ kl p.ks _ (Rd.of_own HO.out) (fun i hi => own_lt HO.out i hi) HK32.out HPE.out.k32).mono ?_
                      obtain ⟨qc, hqc⟩ : ∃ b, b = kl.contains p.ks := ⟨_, rfl⟩
                      rw [← hqc]
                      have HQC := Lib.hid hqc
                      rintro e wc ⟨rfl, hbe⟩
                      clear y0 y33 y34 y35 x0 x1 lp lh HPK
                      replace HPB := Lib.hid (HPB.out.later hbe)
                      replace HHV := Lib.hid (HHV.out.later hbe)
                      replace HO := Lib.hid (own_below HO.out hbe)
                      replace HPE := Lib.hid (HPE.out.below hbe (fun i hi => Nat.lt_of_lt_of_le (HS.out i hi) HBE.out.size))
                      replace HBE := Lib.hid (Bt HBE.out hbe)
                      clear hbe hqc q3
                      have y0 : wc.cell? ⟨wv.heap.size, 0, none⟩ = some (.int .i64 p.nd) := (pe_cells (blk_range HPB.out) HPE.out.k32).1
                      have hpc := pe_cells (blk_range HPB.out) HPE.out.k32
                      simp only [Nat.zero_add] at hpc
                      have y33 := hpc.2.2.1
                      have y34 := hpc.2.2.2.1
                      have y35 := hpc.2.2.2.2
                      have HPK := Lib.hid hpc.2.1
                      have hhc := hd_cells (blk_range HHV.out) HK.out
                      simp only [Nat.zero_add] at hhc
                      have x0 := hhc.1
                      have x1 := hhc.2.1
                      have lp := HPB.out.lt
                      have lh := HHV.out.lt
                      clear hpc hhc
                      cases qc
                      · cases hpx : nuB p.ex
                        · have HPX := Lib.hid hpx
                          clear hpx
                          go_wp2_with (first | (go_at_call 43; refine (number_is HPX.out _).mono ?_; rintro e w' ⟨rfl, rfl⟩) | fail)
                          go_ret
                          exact ⟨ret_bool (HF.out (by unfold peB; rw [HPX.out]; simp)).symm, HBE.out⟩
                        · have HPX := Lib.hid hpx
                          clear hpx
                          by_cases q6 : p.ex ≤ h.clock
                          · go_wp2_with (first | (go_at_call 43; refine (number_is HPX.out _).mono ?_; rintro e w' ⟨rfl, rfl⟩) | fail)
                            go_ret
                            exact ⟨ret_bool (HF.out (by unfold peB; rw [decide_eq_false (p := h.clock < p.ex) (by omega)]; simp)).symm, HBE.out⟩
                          · go_wp2_with (first | (go_at_call 43; refine (number_is HPX.out _).mono ?_; rintro e w' ⟨rfl, rfl⟩) | fail)
                            refine (spans_any S p.IA p.ic p.ins _ HPE.out.ri (fun i hi => Nat.lt_of_lt_of_le (HS.out i hi) HBE.out.size)).mono ?_
                            obtain ⟨b7, hb7⟩ : ∃ b, b = spB p.ins := ⟨_, rfl⟩
                            rw [← hb7]
                            have HB7 := Lib.hid hb7
                            rintro e wd ⟨rfl, hbe⟩
                            clear y0 y33 y34 y35 x0 x1 lp lh HPK
                            replace HPB := Lib.hid (HPB.out.later hbe)
                            replace HHV := Lib.hid (HHV.out.later hbe)
                            replace HO := Lib.hid (own_below HO.out hbe)
                            replace HPE := Lib.hid (HPE.out.below hbe (fun i hi => Nat.lt_of_lt_of_le (HS.out i hi) HBE.out.size))
                            replace HBE := Lib.hid (Bt HBE.out hbe)
                            clear hbe hb7
                            have y0 : wd.cell? ⟨wv.heap.size, 0, none⟩ = some (.int .i64 p.nd) := (pe_cells (blk_range HPB.out) HPE.out.k32).1
                            have hpc := pe_cells (blk_range HPB.out) HPE.out.k32
                            simp only [Nat.zero_add] at hpc
                            have y33 := hpc.2.2.1
                            have y34 := hpc.2.2.2.1
                            have y35 := hpc.2.2.2.2
                            have HPK := Lib.hid hpc.2.1
                            have hhc := hd_cells (blk_range HHV.out) HK.out
                            simp only [Nat.zero_add] at hhc
                            have x0 := hhc.1
                            have x1 := hhc.2.1
                            have lp := HPB.out.lt
                            have lh := HHV.out.lt
                            clear hpc hhc
                            cases b7
                            · go_wp2_with fail
                              go_ret
                              exact ⟨ret_bool (HF.out (by unfold peB; rw [← HB7.out]; simp)).symm, HBE.out⟩
                            · go_wp2_with fail
                              refine (spans_any S p.OA p.oc p.outs _ HPE.out.ro (fun i hi => Nat.lt_of_lt_of_le (HS.out i hi) HBE.out.size)).mono ?_
                              obtain ⟨b8, hb8⟩ : ∃ b, b = spB p.outs := ⟨_, rfl⟩
                              rw [← hb8]
                              have HB8 := Lib.hid hb8
                              rintro e we ⟨rfl, hbe⟩
                              clear y0 y33 y34 y35 x0 x1 lp lh HPK
                              replace HPB := Lib.hid (HPB.out.later hbe)
                              replace HHV := Lib.hid (HHV.out.later hbe)
                              replace HO := Lib.hid (own_below HO.out hbe)
                              replace HPE := Lib.hid (HPE.out.below hbe (fun i hi => Nat.lt_of_lt_of_le (HS.out i hi) HBE.out.size))
                              replace HBE := Lib.hid (Bt HBE.out hbe)
                              clear hbe hb8
                              have y0 : we.cell? ⟨wv.heap.size, 0, none⟩ = some (.int .i64 p.nd) := (pe_cells (blk_range HPB.out) HPE.out.k32).1
                              have hpc := pe_cells (blk_range HPB.out) HPE.out.k32
                              simp only [Nat.zero_add] at hpc
                              have y33 := hpc.2.2.1
                              have y34 := hpc.2.2.2.1
                              have y35 := hpc.2.2.2.2
                              have HPK := Lib.hid hpc.2.1
                              have hhc := hd_cells (blk_range HHV.out) HK.out
                              simp only [Nat.zero_add] at hhc
                              have x0 := hhc.1
                              have x1 := hhc.2.1
                              have lp := HPB.out.lt
                              have lh := HHV.out.lt
                              clear hpc hhc
                              cases b8
                              · go_wp2_with fail
                                go_ret
                                exact ⟨ret_bool (HF.out (by unfold peB; rw [← HB8.out]; simp)).symm, HBE.out⟩
                              · have li := spB_len HB7.out.symm
                                have lo := spB_len HB8.out.symm
                                by_cases q9 : p.ins.length + p.outs.length = 0
                                · obtain ⟨e1, e2⟩ : p.ins.length = 0 ∧ p.outs.length = 0 := by omega
                                  have z1 : ((p.ins.length : Int) + (p.outs.length : Int) == 0) = true := by simp; omega
                                  go_wp2_with fail
                                  go_ret
                                  exact ⟨ret_bool (HF.out (by unfold peB; rw [decide_eq_false (p := 0 < p.ins.length + p.outs.length) (by omega)]; simp)).symm, HBE.out⟩
                                · have z1 : ((p.ins.length : Int) + (p.outs.length : Int) == 0) = false := by simp; omega
                                  have HPT : Hid (peB h.clock h.node t kl p = true) := Lib.hid (by unfold peB; rw [decide_eq_true (p := t < p.nd) (by omega), HPN.out, HQ3.out, ← HQC.out, HPX.out, decide_eq_true (p := h.clock < p.ex) (by omega), ← HB7.out, ← HB8.out, decide_eq_true (p := 0 < p.ins.length + p.outs.length) (by omega)]; rfl)
                                  have HOA := Lib.hid (HO.out.alloc (.cells (bts p.ks).toArray 31))
                                  have HBX := Lib.hid (Rd.box we 31 (bts p.ks) 32 HLP.out)
                                  go_wp2_with (first | (refine step_load big_key rfl (.tmp 116) rfl wv.heap.size 1 rfl (bts p.ks) HLP.out HPK.out ?_) | (refine step_rows Try.underlying89 size_key _ zero_key (by omega) (by omega) rfl _ rfl [bts p.ks] rfl (by intro v hv; rw [List.mem_singleton] at hv; rw [hv]; exact HLP.out) rfl (bts p.ks) (by simp) ?_) | (at_builtin; refine wpList_append_rd _ rfl (.tmp 115) (.tmp 118) _ rfl w.heap.size 31 i0 _ 32 32 Try.underlying89 hi0 hz0 hz1 hz2 (by simp [Value.cells, bts, z32]) (by omega) (.slice A6 kl.length c6) kl.length (rowK kl) rfl HOA.out (fun i => i = we.heap.size) (.slice (some ⟨we.heap.size, 0, none⟩) 1 1) 1 (bts p.ks) rfl HBX.out (bts_one' _) (by have := HKL.out; simp only [maxLen]; omega) (by have := HKL.out; omega) (by have := HBE.out.size; simp; omega) ?_; intro v2 w5 HA; obtain ⟨A5, c5, hv2⟩ := own_slice HA.own; subst hv2; have HAA := Lib.hid HA; clear HA) | fail)
                                  go_roundw
                                  case rel =>
                                    refine ⟨k + 1, p.nd, A5, c5, kl ++ [p.ks], by go_num, rfl, by rw [List.length_append]; rfl, by omega, by omega, hp8, by rw [List.length_append, HKL.out]; rfl, ?_, ?_, ?_, ?_, ?_, ?_⟩
                                    · intro x hx
                                      rcases List.mem_append.1 hx with hx | hx
                                      · exact HK32.out x hx
                                      · rw [List.mem_singleton] at hx; rw [hx]; exact HPE.out.k32
                                    · rw [rowK_snoc, List.length_append]; exact HAA.out.own
                                    · intro i hi
                                      rcases HAA.out.at_ with h1 | h1
                                      · exact HOB.out i (by rw [← h1, ← hi]; exact own_len ..)
                                      · have e : some i = some (we.alloc (.cells (bts p.ks).toArray 31)).heap.size := by rw [← h1, ← hi]; exact own_len ..
                                        injection e with e
                                        have := HBE.out.size
                                        simp at e
                                        omega
                                    · rw [HGO.out, HPT.out]; rfl
                                    · exact (Ba HBE.out _).grown HAA.out.grown (by have := HBE.out.size; simp; omega) (fun j hj => own_ge HO.out j hj)
                                    · exact (HHV.out.alloc _).grown HAA.out.grown (fun e => by have := HOB.out _ e.symm; omega)
                                  case measure => simp [intOf]; omega
                      · go_wp2_with fail
                        go_ret
                        exact ⟨ret_bool (HF.out (by unfold peB; rw [← HQC.out]; simp)).symm, HBE.out⟩
                    · have HQ3 := Lib.hid q3
                      go_wp2_with (first | (go_at_call 56; refine (node_is HPN.out _).mono ?_; rintro e w' ⟨rfl, rfl⟩) | fail)
                      go_ret
                      exact ⟨ret_bool (HF.out (by unfold peB; rw [HQ3.out]; simp)).symm, HBE.out⟩
              · obtain rfl : k = ps.length := by omega
                have HT : Hid (mayB h ps = true) := Lib.hid (by rw [HM3.out, hgo, List.drop_of_length_le (Nat.le_refl _)]; rfl)
                clear hb hgo
                go_wp2_with fail
                go_ret
                exact ⟨ret_bool HT.out.symm, HBV.out⟩
end Go.Proofs.Ytgmndppjdnpejaa
