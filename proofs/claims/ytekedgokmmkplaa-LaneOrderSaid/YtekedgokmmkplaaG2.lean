/- The statement LaneOrder: its walk. -/
import Derived.Test.YtekedgokmmkplaaG0
import Derived.Deep.Cut
import Derived.Deep.CutBlock
import Derived.Deep.CutRange
namespace Go.Proofs.Ytekedgokmmkplaa
open Go.RowKit Go.WideShapes Go.ChangeShapes
set_option maxRecDepth 20000
set_option linter.unusedVariables false
set_option linter.unusedSimpArgs false

theorem bring_mod (x : Int) : bringF x 16 = x % 16 := by
  unfold bringF
  rw [if_neg (by omega)]
  rcases (show x < 0 ∨ 0 ≤ x by omega) with h | h
  · have e : x.tmod 16 = -((-x).tmod 16) := by rw [Int.neg_tmod, Int.neg_neg]
    rw [e, Int.tmod_eq_emod_of_nonneg (show 0 ≤ -x by omega)]
    split <;> omega
  · rw [Int.tmod_eq_emod_of_nonneg h]
    split <;> omega
theorem adr_next (x : Int) : addrF x ≠ addrF (IntKind.i64.wrap (x + 1)) := by
  unfold addrF
  rw [bring_mod, bring_mod, IntKind.wrap_i64]
  split <;> split <;> (try split) <;> (try split) <;> omega
theorem Rd.head {w : World} {S : Nat → Prop} {A : Option Addr} {c : Nat} {xs : List Int} (h : Rd w S 1 (.slice A xs.length c) xs.length (bts xs)) (m : Nat) (hm : m ≤ xs.length) : Rd w S 1 (.slice A (xs.take m).length c) (xs.take m).length (bts (xs.take m)) := by
  have hc := h.cap
  have hl : (xs.take m).length = m := by simp; omega
  refine ⟨by simp [bts], A, c, rfl, by omega, by omega, fun hn => ?_⟩
  obtain ⟨g, o, he, hs, hj⟩ := h.some_ (by omega)
  refine ⟨g, o, he, hs, fun j u hu => hj j u ?_⟩
  have e : bts (xs.take m) = (bts xs).take m := by simp [bts, List.map_take]
  rw [e, List.getElem?_take] at hu
  split at hu
  · exact hu
  · cases hu
theorem addr_zero (A : Option Addr) (c : Nat) : (if c = 0 then A else A.map (·.add 0)) = A := by
  have e : ∀ a : Addr, a.add 0 = a := fun a => by unfold Addr.add; split <;> simp_all
  cases A with
  | none => simp
  | some a => simp [e]
theorem slice_head (A : Option Addr) (n c m : Nat) (h : m ≤ c) (w : World) : (Instr.sliceAt 28 (.slice A n c) none (some (.int .i64 m)) none).run Try.prog w = .ok (.slice A m c) w := by
  rw [run_sliceAt_slice _ _ _ _ _ _ (by kernel_rfl), run_slice_h _ _ _ _ _ (by kernel_rfl) .i64 m (by omega) (by omega)]
  have hs : (sizeOf (Try.prog.elem 28)).run Try.prog w = .ok 1 w := by kernel_rfl
  rw [hs]
  show Result.ok (sliced A 0 (m : Int).toNat c 1) w = _
  unfold sliced
  rw [Nat.zero_mul, addr_zero]
  simp
theorem put_ok_ (ds : List Dg) (f t : Int) (bs : List Int) (hf : adr f = true) (ht : adr t = true) (hne : f ≠ t) (hl : ds.length < 4096) : putE ds f t = 0 ∧ putL ds f t bs = ds ++ [⟨f, t, bs⟩] := by
  have e : putE ds f t = 0 := by
    unfold putE
    rw [if_pos (by simp [hf, ht, hne]), if_neg (by omega)]
  exact ⟨e, by unfold putL; rw [e, if_pos rfl]⟩
theorem takes_first (d : Dg) (ds : List Dg) : takesF (d :: ds) 0 d.f d.t d.bs = true ∧ takL (d :: ds) 0 = ds := by
  have h : inR (d :: ds).length 0 = true := by simp [inR]
  have he : seeE (d :: ds) 0 = 0 := by unfold seeE; rw [h, if_pos rfl]
  have hd : seeD (d :: ds) 0 = d := by unfold seeD; rw [h, if_pos rfl]; rfl
  constructor
  · unfold takesF; rw [he, if_pos rfl, hd]; simp [sameF, eqB]
  · unfold takL; rw [h, if_pos rfl]; rfl

/-- What was put, as it lies in the list: each datagram's bytes are an argument's. -/
def PutsAt (w : World) (W : World) (its : List Item) (sv : Value) (S : Nat → Prop) : Prop :=
  w.ownsRow 0 30 3 sv its.length (rowOf its) ∧ (∀ k, sv.ownBlock = some k → S k) ∧ ∀ x ∈ its, Rd W (fun i => i < W.heap.size) 1 (.slice x.A x.bs.length x.c) x.bs.length (bts x.bs) ∧ x.bs.length ≤ 100

theorem LaneIn.turn {B : Nat} {K L T : Nat → Prop} {w w' : World} {p : Nat} {ds : List Dg} {sd : Int} (h : LaneIn B K w p ds sd) (hm : Mod T w w') (hT : ∀ i, T i → K i) (hL : ∀ i, L i → K i ∨ (w.heap.size ≤ i ∧ i < w'.heap.size)) : LaneIn B L w' p ds sd := by
  obtain ⟨h1, h2, h3, h4, h5, S, h6, h7⟩ := h
  refine ⟨Nat.le_trans h1 hm.size, fun i hi => ?_, h3, h4, h5, S, fun i hi => ⟨(h6 i hi).1, fun hl => ?_⟩, h7.kept hm (fun i hi ht => (h6 i hi).2 (hT i ht))⟩
  · rcases hL i hi with h | h
    · exact Nat.lt_of_lt_of_le (h2 i h) hm.size
    · exact h.2
  · rcases hL i hl with h | h
    · exact (h6 i hi).2 h
    · have := h7.2.1 i hi; omega

set_option maxHeartbeats 8000000 in
theorem laneOrder_list (W : World) (A : Option Addr) (c : Nat) (fs : List Int) (hfs : IntsRd W A c fs) (B : Option Addr) (c2 : Nat) (bl : List Bs1) (hbl : BssRd W B c2 bl) :
    Calls Try.prog 5 #[.slice A fs.length c, .slice B bl.length c2] W fun e w' => e = .returned (.bool true) ∧ Below W.heap.size W w' := by
  obtain ⟨i0, hi0, hz0, hz1, hz2⟩ := info_parts info30
  have hcap := hfs.cap
  have hmost := hfs.most
  have hcap2 := hbl.cap
  have hmost2 := hbl.most
  have HF := Lib.hid hfs
  have HBL := Lib.hid hbl
  have hsl := slice_head
  clear hfs hbl
  go_enter Try.func5, Try.ntmps5
  go_wp2_with fail
  refine (works_any _).mono ?_
  rintro e w1 ⟨rfl, hb1⟩
  have lw1 := hb1.size
  have HB1 := Lib.hid hb1
  clear hb1
  go_wp2_with fail
  refine (new_in (fun _ => False) w1 (fun i h => h.elim) w1.heap.size (Nat.le_refl _)).mono ?_
  rintro e w2 ⟨rfl, HL2, hb2⟩
  obtain ⟨p, hp⟩ : ∃ p, p = w1.heap.size := ⟨_, rfl⟩
  rw [← hp] at HL2 lw1 ⊢
  have HW2 := Lib.hid (Bt HB1.out hb2)
  have HL3 := Lib.hid HL2
  clear hb2 hp HB1 HL2
  go_wp2_with fail
  go_loopw [6, 7] (fun sv i wr => ∃ its : List Item, ∃ S : Nat → Prop, its.length ≤ fs.length ∧ its.length ≤ bl.length ∧ its.length ≤ 300 ∧ i = .int .i64 its.length ∧ PutsAt wr W its sv S ∧ LaneIn p S wr p (its.map Item.dg) 0 ∧ (∀ i, S i → p ≤ i) ∧ Below W.heap.size W wr) (fun _ i _ => fs.length - (intOf i).toNat)
  case atStart => exact ⟨[], fun _ => False, Nat.zero_le _, Nat.zero_le _, Nat.zero_le _, rfl, ⟨World.ownsRow_nil _ _ _ _, by simp [Value.ownBlock], by simp⟩, HL3.out, fun i h => h.elim, HW2.out⟩
  case round =>
    obtain ⟨its, S, hn1, hn2, hn3, rfl, hpu, hl, hS, hbw⟩ := hrel
    obtain ⟨wo, rfl⟩ : ∃ wo, wo = wr := ⟨_, rfl⟩
    obtain ⟨Ap, cp, rfl⟩ := own_slice hpu.1
    have HPU := Lib.hid hpu
    have HLO := Lib.hid hl
    have HWO := Lib.hid hbw
    have HS := Lib.hid hS
    clear hpu hl hS
    obtain ⟨n, hn⟩ : ∃ n, n = its.length := ⟨_, rfl⟩
    rw [← hn] at hn1 hn2 hn3 ⊢
    have HN := Lib.hid hn
    clear hn
    by_cases hlt : n < fs.length ∧ n < bl.length ∧ n < 300
    · obtain ⟨l1, l2, l3⟩ := hlt
      have l1' : (n : Int) < (fs.length : Int) := by omega
      have l2' : (n : Int) < (bl.length : Int) := by omega
      have l3' : (n : Int) < 300 := by omega
      have n0 : (0 : Int) ≤ (n : Int) := by omega
      obtain ⟨gf, of_, hA, hgf, hx⟩ := HF.out.at_ n l1
      obtain ⟨gb, ob, hB, hgb, hy1, hy2, hy3⟩ := HBL.out.at_ n l2
      subst hA hB
      have hx0 : wo.cell? ⟨gf, of_ + n, none⟩ = some (.int .i64 fs[n]) := (hbw.cell hgf).trans hx
      have hy0 : wo.cell? ⟨gb, ob + n, none⟩ = some (.slice bl[n].A bl[n].bs.length bl[n].c) := (hbw.cell hgb).trans hy3
      generalize fs[n] = x at hx0
      generalize bl[n] = y at hy0 hy1 hy2
      obtain ⟨yA, yc, ybs⟩ := y
      dsimp only at hy0 hy1 hy2
      have hmc := hy2.cap
      obtain ⟨bs, hbl, hbr⟩ : ∃ bs : List Int, bs.length = min ybs.length 100 ∧ Rd W (fun i => i < W.heap.size) 1 (.slice yA bs.length yc) bs.length (bts bs) :=
        ⟨ybs.take (min ybs.length 100), by simp, hy2.head _ (by omega)⟩
      have hmb : bs.length ≤ yc := by omega
      have hmi : (if (100 : Int) < (ybs.length : Int) then (100 : Int) else (ybs.length : Int)) = (bs.length : Int) := by split <;> omega
      have hm100 : (bs.length : Int) ≤ 100 := by omega
      have hm0 : (0 : Int) ≤ (bs.length : Int) := by omega
      have hmc' : (bs.length : Int) ≤ (yc : Int) := by omega
      have hb100 : bs.length ≤ 100 := by omega
      have HY := Lib.hid hbr
      clear hbl
      obtain ⟨x1, hx1⟩ : ∃ x1, IntKind.i64.wrap (x + 1) = x1 := ⟨_, rfl⟩
      have han := adr_next x
      have ha1 := adr_addrF x
      have ha2 := adr_addrF x1
      rw [hx1] at han
      obtain ⟨f, hf⟩ : ∃ f, addrF x = f := ⟨_, rfl⟩
      obtain ⟨t, ht⟩ : ∃ t, addrF x1 = t := ⟨_, rfl⟩
      rw [hf, ht] at han
      rw [hf] at ha1
      rw [ht] at ha2
      have hfd : (f == t) = false := by rw [beq_eq_false_iff_ne]; exact han
      have HAD := Lib.hid (And.intro ha1 (And.intro ha2 han))
      clear han ha1 ha2
      have lgf : gf < wo.heap.size := Nat.lt_of_lt_of_le hgf hbw.size
      have lgb : gb < wo.heap.size := Nat.lt_of_lt_of_le hgb hbw.size
      have ngf : ¬ gf = wo.heap.size := by omega
      have ngb : ¬ gb = wo.heap.size := by omega
      clear hx hy1 hy2 hy3 hbr hmc hbw
      go_upto_region 8 with fail
      go_cut [8] from 13 to 73 (fun v wx => v = .pointer (some ⟨wo.heap.size, 0, none⟩) ∧ Below wo.heap.size wo wx ∧ Blk wx wo.heap.size 30 #[.int .i64 f, .int .i64 t, .slice yA bs.length yc])
      case first =>
        go_region_held3 (fun w' => w'.cell? ⟨gf, of_ + n, none⟩ = some (.int .i64 x) ∧ w'.cell? ⟨gb, ob + n, none⟩ = some (.slice yA ybs.length yc)) (first | go_keep) (first
          | (go_at_call 24; refine (address_any _ _).mono ?_; rintro e w' ⟨rfl, rfl⟩; first | rw [hf] | rw [ht]))
        all_goals
          go_wp2_with fail
          go_meet
          first
            | exact ⟨rfl, Bd (Ba (B0 wo) _), (Blk.new wo 30 _).drew⟩
            | exact ⟨rfl, Ba (Bd (B0 wo)) _, Blk.new wo 30 _⟩
      case rest =>
      obtain ⟨rfl, hba, hbd⟩ := hcut
      obtain ⟨wa, rfl⟩ : ∃ wa, wa = wc := ⟨_, rfl⟩
      obtain ⟨e0, e1, e2, _⟩ := blk3 hbd
      go_wp2_with fail
      have HLa := Lib.hid (HLO.out.keep (L := fun i => S i ∨ i = wo.heap.size) hba (fun i hi => hi.elim .inr (fun e => .inl ⟨by omega, by have := hbd.lt; omega⟩)))
      have HWa := Lib.hid (Bt HWO.out hba)
      have HBD := Lib.hid hbd
      have HBA := Lib.hid hba
      have hds : (its.map Item.dg).length < 4096 := by rw [List.length_map, ← HN.out]; omega
      have HPO := Lib.hid (put_ok_ (its.map Item.dg) f t bs HAD.out.1 HAD.out.2.1 HAD.out.2.2 hds)
      have hlen : (((its.map Item.dg ++ [(⟨f, t, bs⟩ : Dg)]).length : Nat) : Int) = (n : Int) + 1 := by rw [List.length_append, List.length_map, ← HN.out]; simp
      have HLEN := Lib.hid hlen
      clear e0 e1 e2 hba hbd hds hlen hx0 hy0
      refine (put_in f t yA yc bs _ HLa.out (HY.out.below HWa.out (fun _ h => h)) (fun i hi => by have := HWa.out.size; omega) (by omega)).mono ?_
      rintro e wp ⟨rfl, HLp, hmp⟩
      rw [HPO.out.1]
      rw [HPO.out.2] at HLp
      have hbd := HBD.out.kept hmp (fun h => h.2 (.inr rfl))
      obtain ⟨q0, q1, q2, _⟩ := blk3 hbd
      have HO : Hid (wp.ownsRow 0 30 3 (.slice Ap n cp) n (rowOf its)) := Lib.hid (by rw [HN.out]; exact own_mod (own_below HPU.out.1 HBA.out) hmp (fun k hk hs => hs.2 (.inl (HPU.out.2.1 k hk))) (Nat.le_refl _))
      have HWp := Lib.hid (Bm HWa.out hmp (fun i hi => by have := hi.1; omega))
      have HLP := Lib.hid HLp
      have lwp : wo.heap.size ≤ wp.heap.size := Nat.le_trans HBA.out.size hmp.size
      clear hmp HLp hbd
      go_wp2_with fail
      refine (len_in _ HLP.out).mono ?_
      rintro e w' ⟨rfl, rfl⟩
      rw [HLEN.out]
      have n1 : (n : Int) + 1 ≤ 300 := by omega
      go_wp2_with (at_builtin; refine wpList_append_rd _ rfl (.tmp 70) (.tmp 72) 36 rfl 0 30 i0 (.agg #[.int .i64 0, .int .i64 0, .slice none 0 0]) 3 40 Try.underlying36 hi0 hz0 hz1 hz2 rfl (by omega) (.slice Ap n cp) n (rowOf its) rfl (own_below HO.out (Ba (B0 wp) _)) (fun k => k = wp.heap.size) (.slice (some ⟨wp.heap.size, 0, none⟩) 1 1) 1 [.int .i64 f, .int .i64 t, .slice yA bs.length yc] rfl (Rd.box wp 30 [.int .i64 f, .int .i64 t, .slice yA bs.length yc] 3 rfl) (by simp [Value.oneCell']) (by simp only [maxLen]; omega) (by omega) (Nat.zero_le _) ?_; intro v2 wz HA; obtain ⟨A2, c2', rfl⟩ := own_slice HA.own)
      have hmz : Mod (fun i => (Value.slice Ap n cp).ownBlock = some i) wp wz := ((Mod.refl _ wp).alloc _).trans ((Mod.refl (fun i => (Value.slice Ap n cp).ownBlock = some i) _).grown HA.grown (fun k hk => .inl hk)) (fun i hi => .inl hi)
      have hob : ∀ i, (Value.slice Ap n cp).ownBlock = some i → S i := fun i hi => HPU.out.2.1 i (by rw [← HN.out]; exact hi)
      have hsz := hmz.size
      have hv2 : ∀ i, (Value.slice A2 (n + 1) c2').ownBlock = some i → S i ∨ (wp.heap.size ≤ i ∧ i < wz.heap.size) := by
        intro i hi
        rcases HA.at_ with e | e
        · exact .inl (hob i (e.symm.trans hi))
        · rw [e] at hi
          injection hi with hi
          have := own_lt HA.own i (by rw [e, hi])
          right
          simp at hi
          omega
      have hlz := LaneIn.turn (L := fun i => S i ∨ (wp.heap.size ≤ i ∧ i < wz.heap.size)) HLP.out hmz (fun i hi => .inl (hob i hi)) (fun i hi => hi.elim (fun h => .inl (.inl h)) (fun h => .inr h))
      have HZ := Lib.hid (And.intro hmz (And.intro hv2 (And.intro hlz hsz)))
      have HAA := Lib.hid HA
      have HOB := Lib.hid hob
      clear hmz hv2 hlz hsz HA hob
      go_wp2_with fail
      go_roundw
      case rel =>
        refine ⟨its ++ [⟨f, t, yA, yc, bs⟩], fun i => S i ∨ (wp.heap.size ≤ i ∧ i < wz.heap.size), ?_, ?_, ?_, ?_, ⟨?_, ?_, ?_⟩, ?_, ?_, ?_⟩
        · rw [List.length_append, ← HN.out]; simp; omega
        · rw [List.length_append, ← HN.out]; simp; omega
        · rw [List.length_append, ← HN.out]; simp; omega
        · rw [List.length_append, ← HN.out]; go_num
        · rw [List.length_append, ← HN.out, rowOf_append]; exact HAA.out.own
        · exact HZ.out.2.1
        · intro z hz
          rcases List.mem_append.1 hz with hz | hz
          · exact HPU.out.2.2 z hz
          · simp only [List.mem_singleton] at hz
            subst hz
            exact ⟨HY.out, by show bs.length ≤ 100; omega⟩
        · rw [List.map_append]; exact HZ.out.2.2.1
        · intro i hi
          rcases hi with hi | hi
          · exact HS.out i hi
          · have := HWO.out.size; have := (HLO.out).1; omega
        · exact Bm HWp.out HZ.out.1 (fun i hi => by have := HS.out i (HOB.out i hi); omega)
      case measure => simp [intOf]; omega
    · have hend : (¬ (n : Int) < (fs.length : Int)) ∨ ((n : Int) < (fs.length : Int) ∧ ¬ (n : Int) < (bl.length : Int)) ∨ ((n : Int) < (fs.length : Int) ∧ (n : Int) < (bl.length : Int) ∧ ¬ (n : Int) < 300) := by omega
      clear hlt hbw
      have n0 : (0 : Int) ≤ (n : Int) := by omega
      have n300 : (n : Int) ≤ 300 := by omega
      rcases hend with e1 | ⟨e1, e2⟩ | ⟨e1, e2, e3⟩
      all_goals
        go_wp2_with fail
        go_loopw [9] (fun i wr => ∃ k : Nat, k ≤ n ∧ i = .int .i64 k ∧ LaneIn p S wr p ((its.drop k).map Item.dg) 0 ∧ wr.ownsRow 0 30 3 (.slice Ap n cp) n (rowOf its) ∧ Below W.heap.size W wr) (fun i _ => n - (intOf i).toNat)
        case atStart => exact ⟨0, Nat.zero_le _, rfl, HLO.out, by rw [HN.out]; exact HPU.out.1, HWO.out⟩
        case round =>
          obtain ⟨k, hk, rfl, hl2, ho2, hw2⟩ := hrel
          have HL2 := Lib.hid hl2
          have HO2 := Lib.hid ho2
          have HW2 := Lib.hid hw2
          clear hl2 hw2
          by_cases hkn : k < n
          · obtain ⟨g, cc, hv, _⟩ := ho2.form (by omega)
            injection hv with hv1 hv2 hv3
            subst hv1
            clear hv2 hv3
            have hki : k < its.length := by rw [← HN.out]; exact hkn
            have d0 := (ho2.cellAt (k * 3) (by omega)).trans (rowOf_at its k hki 0 (by omega))
            have d1 := (ho2.cellAt (k * 3 + 1) (by omega)).trans (rowOf_at its k hki 1 (by omega))
            have d2 := (ho2.cellAt (k * 3 + 2) (by omega)).trans (rowOf_at its k hki 2 (by omega))
            have hcell := HPU.out.2.2 its[k] (List.getElem_mem hki)
            have hdrop : (its.drop k).map Item.dg = its[k].dg :: (its.drop (k + 1)).map Item.dg := by rw [List.drop_eq_getElem_cons hki]; rfl
            have hlen2 : ((((its.drop (k + 1)).map Item.dg).length : Nat) : Int) = (n : Int) - (k : Int) - 1 := by rw [List.length_map, List.length_drop, ← HN.out]; omega
            generalize its[k] = y at d0 d1 d2 hcell hdrop
            obtain ⟨yf, yt, yA, yc, ybs⟩ := y
            have d0' : wr.cell? ⟨g, k * 3, none⟩ = some (.int .i64 yf) := d0
            have d1' : wr.cell? ⟨g, k * 3 + 1, none⟩ = some (.int .i64 yt) := d1
            have d2' : wr.cell? ⟨g, k * 3 + 2, none⟩ = some (.slice yA ybs.length yc) := d2
            have HC := Lib.hid hcell
            have HD := Lib.hid hdrop
            have HLN := Lib.hid hlen2
            have k0 : (0 : Int) ≤ (k : Int) := by omega
            have kn' : (k : Int) < (n : Int) := by omega
            have hwb : ((n : Int) - (k : Int) - 1 != (n : Int) - (k : Int) - 1) = false := by simp
            clear d0 d1 d2 hcell hdrop hlen2 ho2 hki
            go_wp2_with fail
            refine (takes_in 0 yf yt yA yc ybs _ HL2.out (HC.out.1.below HW2.out (fun _ h => h)) (fun i hi => ⟨by have := HW2.out.size; omega, .inl (by omega)⟩)).mono ?_
            rintro e wt ⟨rfl, HLt, hmt⟩
            have htk := takes_first ⟨yf, yt, ybs⟩ ((its.drop (k + 1)).map Item.dg)
            rw [show takesF ((its.drop k).map Item.dg) 0 yf yt ybs = true from by rw [HD.out]; exact htk.1]
            rw [show takL ((its.drop k).map Item.dg) 0 = (its.drop (k + 1)).map Item.dg from by rw [HD.out]; exact htk.2] at HLt
            have HLT := Lib.hid HLt
            have HOt := Lib.hid (own_mod HO2.out hmt (fun i hi hs => hs.2 (HPU.out.2.1 i (by rw [← HN.out]; exact hi))) (Nat.le_refl _))
            have HWt := Lib.hid (Bm HW2.out hmt (fun i hi => by have := hi.1; omega))
            clear HLt hmt htk
            go_wp2_with fail
            refine (len_in _ HLT.out).mono ?_
            rintro e w' ⟨rfl, rfl⟩
            rw [HLN.out]
            go_wp2_with fail
            go_roundw
            case rel => exact ⟨k + 1, by omega, by go_num, HLT.out, HOt.out, HWt.out⟩
            case measure => simp [intOf]; omega
          · obtain rfl : k = n := by omega
            have hnil : (its.drop k).map Item.dg = [] := by rw [HN.out, List.drop_length]; rfl
            have HNL := Lib.hid hnil
            clear hnil ho2
            go_wp2_with fail
            refine (len_in _ HL2.out).mono ?_
            rintro e w' ⟨rfl, rfl⟩
            rw [HNL.out]
            go_wp2_with fail
            go_ret
            exact ⟨rfl, HW2.out⟩

theorem laneOrder_walk {H : Type} {enc : TypeId × Value → H} (W : World) {base : Nat} {sp : Nat → Bool} {held : Bool} {v : Value} {d : DataW H} {p : List MemPlace} (hv : Value.okWide Try.prog W .any base 47 v) (ht : DataW.Trod enc Try.prog W 0 sp held 47 v d p)
    (hz : ∀ n ∈ d.weights Try.prog 47, n ≤ reachBytes) {v2 : Value} {d2 : DataW H} {p2 : List MemPlace} (hv2 : Value.okWide Try.prog W .any base 48 v2) (ht2 : DataW.Trod enc Try.prog W 0 sp held 48 v2 d2 p2) (hz2 : ∀ n ∈ d2.weights Try.prog 48, n ≤ reachBytes) :
    Calls Try.prog 5 #[v, v2] W fun e w' => e = .returned (.bool true) ∧ Below W.heap.size W w' := by
  obtain ⟨A, c, l, rfl, hl⟩ := open_intlist hv ht
  obtain ⟨B, c2, l2, rfl, hl2⟩ := open_bytess hv2 ht2 hz2
  exact laneOrder_list W A c l hl B c2 l2 hl2
end Go.Proofs.Ytekedgokmmkplaa
