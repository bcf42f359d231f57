/- The coder that writes: fields of a message with entries. -/
import Derived.Test.YtnphnaggamfoiaaD4
namespace Go.Proofs.Ytnphnaggamfoiaa
open Go.RowKit
set_option maxRecDepth 20000
set_option linter.unusedVariables false
set_option linter.unusedSimpArgs false

def entL (xs : List Int) (x : Ed) : List Int := Wr.octL (Wr.putL (Wr.putL xs x.te 7) x.ki 1) x.bs
def entsL (xs : List Int) (l : List Ed) : List Int := l.foldl entL xs
theorem entsL_take (xs : List Int) (l : List Ed) (k : Nat) (hk : k < l.length) : entsL xs (l.take (k + 1)) = entL (entsL xs (l.take k)) l[k] := by
  unfold entsL
  rw [List.take_succ_eq_append_getElem hk, List.foldl_append]
  rfl
theorem entL_len (xs : List Int) (x : Ed) : (entL xs x).length ≤ xs.length + x.bs.length + 18 := by
  have h1 := wputL_len xs x.te 7
  have h2 := wputL_len (Wr.putL xs x.te 7) x.ki 1
  have h3 := woctL_len (Wr.putL (Wr.putL xs x.te 7) x.ki 1) x.bs
  unfold entL
  omega
theorem entsL_len (l : List Ed) (hb : ∀ x ∈ l, x.bs.length ≤ 1200) : ∀ xs, (entsL xs l).length ≤ xs.length + 1218 * l.length := by
  induction l with
  | nil => intro xs; simp [entsL]
  | cons x l ih =>
    intro xs
    have h1 := ih (fun y hy => hb y (by simp [hy])) (entL xs x)
    have h2 := entL_len xs x
    have h3 := hb x (by simp)
    unfold entsL at h1 ⊢
    simp only [List.foldl_cons, List.length_cons]
    omega
theorem set_same {cs : Array Value} {i : Nat} {v : Value} (h : cs[i]? = some v) : cs.setIfInBounds i v = cs := by
  apply Array.ext_getElem?
  intro j
  by_cases hj : i = j
  · subst hj
    have hi : i < cs.size := (Array.getElem?_eq_some_iff.1 h).1
    rw [Array.getElem?_setIfInBounds_self, if_pos hi, h]
  · rw [Array.getElem?_setIfInBounds_ne hj]
def wbody3 (xs : List Int) (P : Po) (l : List Ed) : List Int := entsL (Wr.putL (putsL xs [(4, P.ix), (5, P.lt), (6, P.co), (8, P.hi)]) (P.en : Int) 1) l
/-- The entries' row, to be written. -/
def rowA (l : List En) (rest : List Value) : Array Value := (rowE l ++ rest).toArray
theorem rowA_at (l : List En) (rest : List Value) (k : Nat) (hk : k < l.length) (j : Nat) (hj : j < 4) : (rowA l rest)[k * 4 + j]? = (l[k]).cells[j]? := by
  have h := rowE_at l k hk j hj
  have hl : k * 4 + j < (rowE l).length := by rw [rowE_length]; omega
  simp only [rowA, List.getElem?_toArray]
  rw [List.getElem?_append_left hl, h]

/-- Behind a call that writes into the entries' row, too. -/
def WDidG (B : Nat) (K : Nat → Prop) (p ge n : Nat) (xs : List Int) (w : World) (e : Ending) (w' : World) : Prop := e = .returned (.tuple #[]) ∧ Wr.WrIn B K w' p xs ∧ Mod (fun i => Wr.Stays B K i ∨ (i = ge ∧ 0 < n)) w w'
theorem wr_set {B : Nat} {K : Nat → Prop} {p : Nat} {xs : List Int} {w : World} (h : Wr.WrIn B K w p xs) {g : Nat} (hg : Stay B K g) (i : Nat) (u : Value) : Wr.WrIn B K (w.setCell ⟨g, i, none⟩ u) p xs := by
  obtain ⟨h1, h2, S, h6, h7⟩ := h
  have hm : Mod (fun j => j = g) w (w.setCell ⟨g, i, none⟩ u) := (Mod.refl (fun j => j = g) w).setCell (p := ⟨g, i, none⟩) (.inl rfl) u
  exact ⟨Nat.le_trans h1 hm.size, fun i hi => Nat.lt_of_lt_of_le (h2 i hi) hm.size, S, h6, h7.kept hm (fun j hj e => hg.not (e ▸ h6 j hj))⟩
theorem mod_ge {B : Nat} {K G : Nat → Prop} {a b c d : World} (h : Mod (fun i => Wr.Stays B K i ∨ G i) a b) (hb : Below b.heap.size b c) (hm : Mod (Wr.Stays B K) c d) : Mod (fun i => Wr.Stays B K i ∨ G i) a d :=
  h.trans ((Mod.of_below (S := Wr.Stays B K) hb).trans hm (fun i hi => .inl hi)) (fun i hi => .inl (.inl hi))
set_option maxHeartbeats 2000000 in
theorem wfields3_any {B : Nat} {K : Nat → Prop} {p : Nat} {xs : List Int} (g ge : Nat) (te : TypeId) (rest : List Value) (P : Po) (l : List En) (hk : P.kd = 3) (hx : PoI P) (hi : 0 ≤ P.ix ∧ P.ix ≤ 9007199254740991) (hen : l.length = P.en) (he8 : P.en ≤ 8) (w : World) (h : Wr.WrIn B K w p xs) (hb : Blk w g 27 P.cs) (hs : Stay B K g)
    (hge : P.en = 0 ∨ P.EA = some ⟨ge, 0, none⟩) (hbe : Blk w ge te (rowA l rest)) (hse : Stay B K ge) (hne : g ≠ ge) (hbl : ∀ x ∈ l, x.bs.length ≤ 1200 ∧ x.te < 9223372036854775808 ∧ x.ki < 9223372036854775808 ∧ Rd w (fun i => i < B ∧ i ≠ ge) 1 (.slice x.A x.bs.length x.c) x.bs.length (bts x.bs))
    (hix : ∀ k (hk : k < l.length), l[k].ix = P.ix + 1 + k) (hl : xs.length + 20000 ≤ 140737488355328) :
    Calls Try.prog 61 #[wi p, .pointer (some ⟨g, 0, none⟩)] w (WDidG B K p ge P.en (wbody3 xs P (l.map En.ed)) w) := by
  have q0 : w.cell? ⟨g, 0, none⟩ = some (.int .i64 3) := (hb.cell 0).trans (by rw [← hk]; rfl)
  have H := Lib.hid h
  have HC := Lib.hid (And.intro hb hs)
  have HE := Lib.hid (And.intro hbe (And.intro hse hge))
  have HM := Lib.hid (Mod.refl (Wr.Stays B K) w)
  have HX := Lib.hid hx
  have HL := Lib.hid hl
  have HS := Lib.hid (And.intro hbl hix)
  have hmf := mkfn
  have hna1 := nil_wnumber p
  have hna3 := nil_woctets p
  have hna4 := nil_wmany p
  have lg := hb.lt
  clear h hb hs hl hk hx hbe hse hge hbl hix
  go_enter Try.func61, Try.ntmps61
  go_wp2_with fail
  go_region_held3 (fun _ => True) (exact trivial)
    (first | (go_at_call 76; refine (wlongs_any (K := fun i => K i ∨ i = w.heap.size) g w.heap.size _ _ _ [(4, P.ix), (5, P.lt), (6, P.co), (8, P.hi)] (by intro x hx; simp only [List.mem_cons, List.not_mem_nil, or_false] at hx; rcases hx with rfl | rfl | rfl | rfl; all_goals (refine ⟨rfl, ?_⟩; first | exact HX.out.1.2 | exact HX.out.2.1.2 | exact HX.out.2.2.1.2 | exact HX.out.2.2.2.1.2 | exact HX.out.2.2.2.2.1.2 | exact HX.out.2.2.2.2.2.1.2 | exact HX.out.2.2.2.2.2.2.2)) (by simp) _ (H.out.keep (by repeat (first | exact B0 _ | apply Bs | apply Bd | apply BdN | apply Ba)) (fun i hi => hi.elim .inr (fun e => .inl (by subst e; simp)))) (HC.out.1.later (by repeat (first | exact B0 _ | apply Bs | apply Bd | apply BdN | apply Ba))) (HC.out.2.imp id .inl) (by first | exact Blk.new _ _ _ | exact (Blk.new _ _ _).drew) (.inr (.inr rfl)) (by have := HL.out; simp; omega)).mono ?_; rintro e w1 ⟨rfl, hw, hm⟩))
  have hbx : Below w.heap.size w _ := below_pre hm (by repeat (first | exact B0 _ | apply Bs | apply Bd | apply BdN | apply Ba))
  replace H := Lib.hid (wr_back hw)
  replace HC := Lib.hid (And.intro ((HC.out.1.later (show Below _ _ _ from hbx)).kept hm (HC.out.2.more)) HC.out.2)
  replace HM := Lib.hid (mod_pre HM.out hbx hm)
  replace HL := Lib.hid (show (putsL xs [(4, P.ix), (5, P.lt), (6, P.co), (8, P.hi)]).length + 19968 ≤ 140737488355328 by have := putsL_len [(4, P.ix), (5, P.lt), (6, P.co), (8, P.hi)] xs; have := HL.out; first | (simp at *; omega) | omega)
  clear hw hm hbx
  clear q0
  go_wp2_with fail
  refine (wmany_any g _ _ P.EA P.en P.ec (by omega) _ H.out HC.out.1 HC.out.2 rfl (by have := HL.out; omega)).mono ?_
  rintro e w2 ⟨rfl, hw, hm⟩
  replace H := Lib.hid hw
  replace HC := Lib.hid (And.intro (HC.out.1.kept hm HC.out.2.not) HC.out.2)
  replace HM := Lib.hid (HM.out.trans hm (fun i hi => .inl hi))
  replace HL := Lib.hid (show (Wr.putL (putsL xs [(4, P.ix), (5, P.lt), (6, P.co), (8, P.hi)]) (P.en : Int) 1).length + 16000 ≤ 140737488355328 by have := wputL_len (putsL xs [(4, P.ix), (5, P.lt), (6, P.co), (8, P.hi)]) (P.en : Int) 1; have := HL.out; omega)
  replace HE := Lib.hid (And.intro (HE.out.1.kept HM.out HE.out.2.1.not) HE.out.2)
  have HM2 := Lib.hid (show Mod (fun i => Wr.Stays B K i ∨ (i = ge ∧ 0 < P.en)) w w2 from HM.out.mono (fun i hi => .inl hi))
  obtain ⟨ys, hys⟩ : ∃ ys, ys = Wr.putL (putsL xs [(4, P.ix), (5, P.lt), (6, P.co), (8, P.hi)]) (P.en : Int) 1 := ⟨_, rfl⟩
  rw [← hys] at HL H
  have HY := Lib.hid hys
  clear hw hm HM hys
  have y9 : w2.cell? ⟨g, 9, none⟩ = some (.slice P.EA P.en P.ec) := HC.out.1.cell 9
  have lg2 := HC.out.1.lt
  go_wp2_with fail
  clear y9
  go_loopw [56] (fun i wr => ∃ k : Nat, k ≤ l.length ∧ i = .int .i64 k ∧ Wr.WrIn B K wr p (entsL ys ((l.map En.ed).take k)) ∧ Mod (fun i => Wr.Stays B K i ∨ (i = ge ∧ 0 < P.en)) w wr ∧ Blk wr g 27 P.cs ∧ Blk wr ge te (rowA l rest)) (fun i _ => l.length - (intOf i).toNat)
  case atStart => exact ⟨0, Nat.zero_le _, rfl, H.out, HM2.out, HC.out.1, HE.out.1⟩
  case round =>
    obtain ⟨k, hk, rfl, hw, hm, hbg, hbe⟩ := hrel
    have HW := Lib.hid hw
    have HM := Lib.hid hm
    have HG := Lib.hid (And.intro hbg hbe)
    have lw := hm.size
    have lgr := hbg.lt
    have ler := hbe.lt
    have fz := hbe.frozen (k * 4 + 1)
    have y4 : wr.cell? ⟨g, 4, none⟩ = some (.int .i64 P.ix) := hbg.cell 4
    have y9 : wr.cell? ⟨g, 9, none⟩ = some (.slice P.EA P.en P.ec) := hbg.cell 9
    clear hw hm hbg hbe
    by_cases hlt : k < l.length
    · have hlt2 : (k : Int) < (P.en : Int) := by omega
      have hle : k < (l.map En.ed).length := by simpa using hlt
      have y9' : wr.cell? ⟨g, 9, none⟩ = some (.slice (some ⟨ge, 0, none⟩) P.en P.ec) := by rw [y9]; rcases HE.out.2.2 with h | h; omega; rw [h]
      clear y9
      have hx1 := HS.out.2 k hlt
      have hw1 : IntKind.i64.wrap (P.ix + 1) = P.ix + 1 := by go_arith
      have hw2 : IntKind.i64.wrap (P.ix + 1 + k) = P.ix + 1 + k := by go_arith
      have HQ := Lib.hid (HS.out.1 l[k] (List.getElem_mem hlt))
      have hcell := rowA_at l rest k hlt
      obtain ⟨x, hxl⟩ : ∃ x, x = l[k] := ⟨_, rfl⟩
      have HXL := Lib.hid hxl
      rw [← hxl] at hx1 HQ hcell
      clear hxl
      have HCL := Lib.hid hcell
      have HX1 := Lib.hid hx1
      have y1 : wr.cell? ⟨ge, k * 4 + 1, none⟩ = some (.int .i64 x.ix) := (HG.out.2.cell _).trans (hcell 1 (by omega))
      have BE := HG.out.2.set_ (k * 4 + 1) (.int .i64 (P.ix + 1 + k))
      rw [set_same (by rw [hcell 1 (by omega), ← hx1]; rfl)] at BE
      replace HG := Lib.hid (And.intro (HG.out.1.far (p := ⟨ge, k * 4 + 1, none⟩) hne (.int .i64 (P.ix + 1 + k))) BE)
      have HMs := Lib.hid (HM.out.setCell (p := ⟨ge, k * 4 + 1, none⟩) (.inl (.inr ⟨rfl, by omega⟩)) (.int .i64 (P.ix + 1 + k)))
      have HWs := Lib.hid (wr_set HW.out HE.out.2.1 (k * 4 + 1) (.int .i64 (P.ix + 1 + k)))
      clear hcell hx1 BE HM HW
      go_wp2_with fail
      obtain ⟨wa, hwa⟩ : ∃ wa, wa = wr.setCell ⟨ge, k * 4 + 1, none⟩ (.int .i64 (P.ix + 1 + k)) := ⟨_, rfl⟩
      rw [← hwa] at HG HMs HWs ⊢
      clear y4 y9' y1 fz hwa lw lgr ler
      have HLx := Lib.hid (show (entsL ys ((l.map En.ed).take k)).length + 2000 ≤ 140737488355328 by
        have h1 := entsL_len ((l.map En.ed).take k) (fun y hy => by
          obtain ⟨z, hz, rfl⟩ := List.mem_map.1 (List.mem_of_mem_take hy)
          exact (HS.out.1 z hz).1) ys
        have h2 : ((l.map En.ed).take k).length ≤ 8 := by simp; omega
        have := HL.out
        omega)
      obtain ⟨zs, hzs⟩ : ∃ zs, zs = entsL ys ((l.map En.ed).take k) := ⟨_, rfl⟩
      have HZ := Lib.hid hzs
      rw [← hzs] at HLx HWs
      clear hzs
      go_region_held3 (fun _ => True) (exact trivial)
        (first | (go_at_call 44; refine (wnum_any ge (k * 4) te _ x.te 7 HQ.out.2.1 _ (HWs.out.below (by repeat (first | exact B0 _ | apply Bs | apply Bd | apply BdN | apply Ba))) (HG.out.2.later (by repeat (first | exact B0 _ | apply Bs | apply Bd | apply BdN | apply Ba))) HE.out.2.1 (HCL.out 0 (by omega)) (by have := HLx.out; omega)).mono ?_; rintro e w3 ⟨rfl, hw, hm⟩))
      have hbx : Below wa.heap.size wa _ := below_pre hm (by repeat (first | exact B0 _ | apply Bs | apply Bd | apply BdN | apply Ba))
      replace HWs := Lib.hid hw
      replace HG := Lib.hid (And.intro ((HG.out.1.later hbx).kept hm HC.out.2.not) ((HG.out.2.later hbx).kept hm HE.out.2.1.not))
      replace HMs := Lib.hid (mod_ge HMs.out hbx hm)
      replace HLx := Lib.hid (show (Wr.putL zs x.te 7).length + 1900 ≤ 140737488355328 by have := wputL_len zs x.te 7; have := HLx.out; omega)
      clear hw hm hbx
      go_wp2_with fail
      go_region_held3 (fun _ => True) (exact trivial)
        (first | (go_at_call 44; refine (wnum_any ge (k * 4 + 2) te _ x.ki 1 HQ.out.2.2.1 _ (HWs.out.below (by repeat (first | exact B0 _ | apply Bs | apply Bd | apply BdN | apply Ba))) (HG.out.2.later (by repeat (first | exact B0 _ | apply Bs | apply Bd | apply BdN | apply Ba))) HE.out.2.1 (HCL.out 2 (by omega)) (by have := HLx.out; omega)).mono ?_; rintro e w4 ⟨rfl, hw, hm⟩))
      have hbx : Below w3.heap.size w3 _ := below_pre hm (by repeat (first | exact B0 _ | apply Bs | apply Bd | apply BdN | apply Ba))
      replace HWs := Lib.hid hw
      replace HG := Lib.hid (And.intro ((HG.out.1.later hbx).kept hm HC.out.2.not) ((HG.out.2.later hbx).kept hm HE.out.2.1.not))
      replace HMs := Lib.hid (mod_ge HMs.out hbx hm)
      replace HLx := Lib.hid (show (Wr.putL (Wr.putL zs x.te 7) x.ki 1).length + 1800 ≤ 140737488355328 by have := wputL_len (Wr.putL zs x.te 7) x.ki 1; have := HLx.out; omega)
      clear hw hm hbx
      go_wp2_with fail
      go_region_held3 (fun _ => True) (exact trivial)
        (first | (go_at_call 104; refine (woct_any (T := fun i => i < B ∧ i ≠ ge) ge (k * 4 + 3) te _ x.A x.c x.bs 1200 _ (HWs.out.below (by repeat (first | exact B0 _ | apply Bs | apply Bd | apply BdN | apply Ba))) (HG.out.2.later (by repeat (first | exact B0 _ | apply Bs | apply Bd | apply BdN | apply Ba))) HE.out.2.1 (HCL.out 3 (by omega)) ((HQ.out.2.2.2.kept HMs.out (fun i hi hs => hs.elim (fun h => by have := h.1; omega) (fun h => hi.2 h.1))).below (by repeat (first | exact B0 _ | apply Bs | apply Bd | apply BdN | apply Ba)) (fun i hi => Nat.lt_of_lt_of_le hi.1 HWs.out.1)) (fun i hi => ⟨Nat.lt_of_lt_of_le hi.1 (Nat.le_trans HWs.out.1 (by simp)), .inl hi.1⟩) (by have := HLx.out; have := HQ.out.1; omega)).mono ?_; rintro e w5 ⟨rfl, hw, hm⟩))
      have hbx : Below w4.heap.size w4 _ := below_pre hm (by repeat (first | exact B0 _ | apply Bs | apply Bd | apply BdN | apply Ba))
      replace HWs := Lib.hid hw
      replace HG := Lib.hid (And.intro ((HG.out.1.later hbx).kept hm HC.out.2.not) ((HG.out.2.later hbx).kept hm HE.out.2.1.not))
      replace HMs := Lib.hid (mod_ge HMs.out hbx hm)
      clear hw hm hbx HLx
      go_wp2_with fail
      go_roundw
      case rel => exact ⟨k + 1, by omega, by go_num, by rw [entsL_take ys _ k hle, ← HZ.out, List.getElem_map, ← HXL.out]; exact HWs.out, HMs.out, HG.out.1, HG.out.2⟩
      case measure => simp [intOf]; omega
    · have hlt2 : ¬ (k : Int) < (P.en : Int) := by omega
      have e : k = l.length := by omega
      go_wp2_with fail
      have hw := HW.out
      rw [List.take_of_length_le (by simp; omega), HY.out] at hw
      refine bodyPost_ret (v := .tuple #[]) (by simp [results, Try.results61, go_sem]) rfl ?_
      exact ⟨rfl, hw, HM.out⟩
end Go.Proofs.Ytnphnaggamfoiaa
