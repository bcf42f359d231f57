/- The coder that reads: fields (all kinds but that with entries). -/
import Derived.Test.YtnphnaggamfoiaaE4
namespace Go.Proofs.Ytnphnaggamfoiaa
open Go.RowKit
set_option maxRecDepth 20000
set_option linter.unusedVariables false
set_option linter.unusedSimpArgs false

/-- A message that has its head alone. -/
abbrev zPo (kd fr tq te : Int) : Po := ⟨kd, fr, tq, te, 0, 0, 0, false, 0, none, 0, 0, 0, 0, 0, none, 0, 0⟩
def RNone (w : World) (e : Ending) (w' : World) : Prop := e = .returned (.tuple #[]) ∧ w = w'
theorem T_lt {w : World} {T : Nat → Prop} {rb : Nat} {s : St} (h : RrAt w T rb s) : ¬ T w.heap.size := fun h' => by have := h.2.1 _ h'; omega

def rS1 (s : St) : St := ((s).nx 7).nx 7
def rP1 (fr tq te : Int) (s : St) : Po := ({ (zPo 1 fr tq te) with ix := (s).num 7, lt := ((s).nx 7).num 7 } : Po)
set_option maxHeartbeats 1000000 in
theorem rfields1_any (T : Nat → Prop) (rb g : Nat) (fr tq te : Int) (s : St) (w : World) (h : RrAt w T rb s) (hb : Blk w g 27 (zPo 1 fr tq te).cs) (hg : ¬ T g) :
    Calls Try.prog 61 #[ri rb, .pointer (some ⟨g, 0, none⟩)] w (RrDid T rb g 27 (rP1 fr tq te s).cs (rS1 s) w) := by
  have q0 : w.cell? ⟨g, 0, none⟩ = some (.int .i64 1) := hb.cell 0
  have H := Lib.hid h
  have HC := Lib.hid (And.intro hb hg)
  have HM := Lib.hid (Mod.refl (fun i => T i ∨ i = g) w)
  have hmf := mkfn
  have hna1 := nil_rnumber rb
  have hna2 := nil_rflag rb
  have hna3 := nil_roctets rb
  have lg := hb.lt
  clear h hb hg
  go_enter Try.func61, Try.ntmps61
  go_wp2_with fail
  go_region_held3 (fun _ => True) (exact trivial)
    (first | (go_at_call 76; refine (rlongs_any T rb g w.heap.size 27 _ (zPo 1 fr tq te).cs (s) [4, 5] (by decide) (by intro o ho; simp only [List.mem_cons, List.not_mem_nil, or_false] at ho; rcases ho with rfl | rfl <;> rfl) (by simp) _ (H.out.below (by repeat (first | exact B0 _ | apply Bs | apply Bd | apply BdN | apply Ba))) (HC.out.1.later (by repeat (first | exact B0 _ | apply Bs | apply Bd | apply BdN | apply Ba))) HC.out.2 (by first | exact Blk.new _ _ _ | exact (Blk.new _ _ _).drew) (T_lt H.out) (fun h => by have := HC.out.1.lt; omega)).mono ?_; rintro e w1 ⟨rfl, hr, hm, hk⟩))
  have hbx : Below w.heap.size w _ := below_pre' hm (by repeat (first | exact B0 _ | apply Bs | apply Bd | apply BdN | apply Ba))
  replace HM := Lib.hid (mod_step HM.out hbx hm)
  replace H := Lib.hid (show RrAt w1 T rb (((s).nx 7).nx 7) from hr)
  replace HC := Lib.hid (And.intro (show Blk w1 g 27 ({ (zPo 1 fr tq te) with ix := (s).num 7, lt := ((s).nx 7).num 7 } : Po).cs from hk) HC.out.2)
  have lg1 := HC.out.1.lt
  clear hr hm hk hbx
  go_wp2_with fail
  refine bodyPost_ret (v := .tuple #[]) (by simp [results, Try.results61, go_sem]) rfl ?_
  exact ⟨rfl, H.out, HM.out, HC.out.1⟩

def rS2 (s : St) : St := (s).fx
def rP2 (fr tq te : Int) (s : St) : Po := ({ (zPo 2 fr tq te) with ok := (s).flag } : Po)
set_option maxHeartbeats 1000000 in
theorem rfields2_any (T : Nat → Prop) (rb g : Nat) (fr tq te : Int) (s : St) (w : World) (h : RrAt w T rb s) (hb : Blk w g 27 (zPo 2 fr tq te).cs) (hg : ¬ T g) :
    Calls Try.prog 61 #[ri rb, .pointer (some ⟨g, 0, none⟩)] w (RrDid T rb g 27 (rP2 fr tq te s).cs (rS2 s) w) := by
  have q0 : w.cell? ⟨g, 0, none⟩ = some (.int .i64 2) := hb.cell 0
  have H := Lib.hid h
  have HC := Lib.hid (And.intro hb hg)
  have HM := Lib.hid (Mod.refl (fun i => T i ∨ i = g) w)
  have hmf := mkfn
  have hna1 := nil_rnumber rb
  have hna2 := nil_rflag rb
  have hna3 := nil_roctets rb
  have lg := hb.lt
  clear h hb hg
  go_enter Try.func61, Try.ntmps61
  go_wp2_with fail
  go_region_held3 (fun _ => True) (exact trivial)
    (first | (go_at_call 108; refine (rflag_any T rb g 7 27 (zPo 2 fr tq te).cs false (s) _ (H.out.below (by repeat (first | exact B0 _ | apply Bs | apply Bd | apply BdN | apply Ba))) (HC.out.1.later (by repeat (first | exact B0 _ | apply Bs | apply Bd | apply BdN | apply Ba))) HC.out.2 rfl).mono ?_; rintro e w1 ⟨rfl, hr, hm, hk⟩))
  have hbx : Below w.heap.size w _ := below_pre' hm (by repeat (first | exact B0 _ | apply Bs | apply Bd | apply BdN | apply Ba))
  replace HM := Lib.hid (mod_step HM.out hbx hm)
  replace H := Lib.hid (show RrAt w1 T rb ((s).fx) from hr)
  replace HC := Lib.hid (And.intro (show Blk w1 g 27 ({ (zPo 2 fr tq te) with ok := (s).flag } : Po).cs from hk) HC.out.2)
  have lg1 := HC.out.1.lt
  clear hr hm hk hbx
  go_wp2_with fail
  refine bodyPost_ret (v := .tuple #[]) (by simp [results, Try.results61, go_sem]) rfl ?_
  exact ⟨rfl, H.out, HM.out, HC.out.1⟩

def rS4 (s : St) : St := (((s).fx).nx 7).nx 7
def rP4 (fr tq te : Int) (s : St) : Po := ({ ({ (zPo 4 fr tq te) with ok := (s).flag } : Po) with ix := ((s).fx).num 7, hi := (((s).fx).nx 7).num 7 } : Po)
set_option maxHeartbeats 1000000 in
theorem rfields4_any (T : Nat → Prop) (rb g : Nat) (fr tq te : Int) (s : St) (w : World) (h : RrAt w T rb s) (hb : Blk w g 27 (zPo 4 fr tq te).cs) (hg : ¬ T g) :
    Calls Try.prog 61 #[ri rb, .pointer (some ⟨g, 0, none⟩)] w (RrDid T rb g 27 (rP4 fr tq te s).cs (rS4 s) w) := by
  have q0 : w.cell? ⟨g, 0, none⟩ = some (.int .i64 4) := hb.cell 0
  have H := Lib.hid h
  have HC := Lib.hid (And.intro hb hg)
  have HM := Lib.hid (Mod.refl (fun i => T i ∨ i = g) w)
  have hmf := mkfn
  have hna1 := nil_rnumber rb
  have hna2 := nil_rflag rb
  have hna3 := nil_roctets rb
  have lg := hb.lt
  clear h hb hg
  go_enter Try.func61, Try.ntmps61
  go_wp2_with fail
  go_region_held3 (fun _ => True) (exact trivial)
    (first | (go_at_call 108; refine (rflag_any T rb g 7 27 (zPo 4 fr tq te).cs false (s) _ (H.out.below (by repeat (first | exact B0 _ | apply Bs | apply Bd | apply BdN | apply Ba))) (HC.out.1.later (by repeat (first | exact B0 _ | apply Bs | apply Bd | apply BdN | apply Ba))) HC.out.2 rfl).mono ?_; rintro e w1 ⟨rfl, hr, hm, hk⟩))
  have hbx : Below w.heap.size w _ := below_pre' hm (by repeat (first | exact B0 _ | apply Bs | apply Bd | apply BdN | apply Ba))
  replace HM := Lib.hid (mod_step HM.out hbx hm)
  replace H := Lib.hid (show RrAt w1 T rb ((s).fx) from hr)
  replace HC := Lib.hid (And.intro (show Blk w1 g 27 ({ (zPo 4 fr tq te) with ok := (s).flag } : Po).cs from hk) HC.out.2)
  have lg1 := HC.out.1.lt
  clear hr hm hk hbx
  go_wp2_with fail
  go_region_held3 (fun _ => True) (exact trivial)
    (first | (go_at_call 76; refine (rlongs_any T rb g w1.heap.size 27 _ ({ (zPo 4 fr tq te) with ok := (s).flag } : Po).cs ((s).fx) [4, 8] (by decide) (by intro o ho; simp only [List.mem_cons, List.not_mem_nil, or_false] at ho; rcases ho with rfl | rfl <;> rfl) (by simp) _ (H.out.below (by repeat (first | exact B0 _ | apply Bs | apply Bd | apply BdN | apply Ba))) (HC.out.1.later (by repeat (first | exact B0 _ | apply Bs | apply Bd | apply BdN | apply Ba))) HC.out.2 (by first | exact Blk.new _ _ _ | exact (Blk.new _ _ _).drew) (T_lt H.out) (fun h => by have := HC.out.1.lt; omega)).mono ?_; rintro e w2 ⟨rfl, hr, hm, hk⟩))
  have hbx : Below w1.heap.size w1 _ := below_pre' hm (by repeat (first | exact B0 _ | apply Bs | apply Bd | apply BdN | apply Ba))
  replace HM := Lib.hid (mod_step HM.out hbx hm)
  replace H := Lib.hid (show RrAt w2 T rb ((((s).fx).nx 7).nx 7) from hr)
  replace HC := Lib.hid (And.intro (show Blk w2 g 27 ({ ({ (zPo 4 fr tq te) with ok := (s).flag } : Po) with ix := ((s).fx).num 7, hi := (((s).fx).nx 7).num 7 } : Po).cs from hk) HC.out.2)
  have lg2 := HC.out.1.lt
  clear hr hm hk hbx
  go_wp2_with fail
  refine bodyPost_ret (v := .tuple #[]) (by simp [results, Try.results61, go_sem]) rfl ?_
  exact ⟨rfl, H.out, HM.out, HC.out.1⟩

def rS5 (s : St) : St := (((((s).nx 7).nx 7).nx 7).nx 1).ox
def rD5 (s : St) : List Int := (((((s).nx 7).nx 7).nx 7).nx 1).oct
def rP5 (fr tq te : Int) (s : St) (A : Option Addr) (c : Nat) : Po := ({ ({ ({ (zPo 5 fr tq te) with hi := (s).num 7, si := ((s).nx 7).num 7, st := (((s).nx 7).nx 7).num 7 } : Po) with sc := ((((s).nx 7).nx 7).nx 7).num 1 } : Po) with SA := A, sn := (((((s).nx 7).nx 7).nx 7).nx 1).oct.length, sk := c } : Po)
def RDid5 (T : Nat → Prop) (rb g : Nat) (fr tq te : Int) (s : St) (w : World) (e : Ending) (w' : World) : Prop :=
  ∃ A c, RrDid T rb g 27 (rP5 fr tq te s A c).cs (rS5 s) w e w' ∧ w'.ownsRow w.heap.size 5 1 (.slice A (rD5 s).length c) (rD5 s).length (bts (rD5 s))
set_option maxHeartbeats 1000000 in
theorem rfields5_any (T : Nat → Prop) (rb g : Nat) (fr tq te : Int) (s : St) (w : World) (h : RrAt w T rb s) (hb : Blk w g 27 (zPo 5 fr tq te).cs) (hg : ¬ T g) :
    Calls Try.prog 61 #[ri rb, .pointer (some ⟨g, 0, none⟩)] w (RDid5 T rb g fr tq te s w) := by
  have q0 : w.cell? ⟨g, 0, none⟩ = some (.int .i64 5) := hb.cell 0
  have H := Lib.hid h
  have HC := Lib.hid (And.intro hb hg)
  have HM := Lib.hid (Mod.refl (fun i => T i ∨ i = g) w)
  have hmf := mkfn
  have hna1 := nil_rnumber rb
  have hna2 := nil_rflag rb
  have hna3 := nil_roctets rb
  have lg := hb.lt
  clear h hb hg
  go_enter Try.func61, Try.ntmps61
  go_wp2_with fail
  go_region_held3 (fun _ => True) (exact trivial)
    (first | (go_at_call 76; refine (rlongs_any T rb g w.heap.size 27 _ (zPo 5 fr tq te).cs (s) [8, 10, 11] (by decide) (by intro o ho; simp only [List.mem_cons, List.not_mem_nil, or_false] at ho; rcases ho with rfl | rfl | rfl <;> rfl) (by simp) _ (H.out.below (by repeat (first | exact B0 _ | apply Bs | apply Bd | apply BdN | apply Ba))) (HC.out.1.later (by repeat (first | exact B0 _ | apply Bs | apply Bd | apply BdN | apply Ba))) HC.out.2 (by first | exact Blk.new _ _ _ | exact (Blk.new _ _ _).drew) (T_lt H.out) (fun h => by have := HC.out.1.lt; omega)).mono ?_; rintro e w1 ⟨rfl, hr, hm, hk⟩))
  have hbx : Below w.heap.size w _ := below_pre' hm (by repeat (first | exact B0 _ | apply Bs | apply Bd | apply BdN | apply Ba))
  replace HM := Lib.hid (mod_step HM.out hbx hm)
  replace H := Lib.hid (show RrAt w1 T rb ((((s).nx 7).nx 7).nx 7) from hr)
  replace HC := Lib.hid (And.intro (show Blk w1 g 27 ({ (zPo 5 fr tq te) with hi := (s).num 7, si := ((s).nx 7).num 7, st := (((s).nx 7).nx 7).num 7 } : Po).cs from hk) HC.out.2)
  have lg1 := HC.out.1.lt
  clear hr hm hk hbx
  go_wp2_with fail
  go_region_held3 (fun _ => True) (exact trivial)
    (first | (go_at_call 48; refine (rnum_any T rb g 12 1 27 ({ (zPo 5 fr tq te) with hi := (s).num 7, si := ((s).nx 7).num 7, st := (((s).nx 7).nx 7).num 7 } : Po).cs 0 ((((s).nx 7).nx 7).nx 7) _ (H.out.below (by repeat (first | exact B0 _ | apply Bs | apply Bd | apply BdN | apply Ba))) (HC.out.1.later (by repeat (first | exact B0 _ | apply Bs | apply Bd | apply BdN | apply Ba))) HC.out.2 rfl).mono ?_; rw [num0]; rintro e w2 ⟨rfl, hr, hm, hk⟩))
  have hbx : Below w1.heap.size w1 _ := below_pre' hm (by repeat (first | exact B0 _ | apply Bs | apply Bd | apply BdN | apply Ba))
  replace HM := Lib.hid (mod_step HM.out hbx hm)
  replace H := Lib.hid (show RrAt w2 T rb (((((s).nx 7).nx 7).nx 7).nx 1) from hr)
  replace HC := Lib.hid (And.intro (show Blk w2 g 27 ({ ({ (zPo 5 fr tq te) with hi := (s).num 7, si := ((s).nx 7).num 7, st := (((s).nx 7).nx 7).num 7 } : Po) with sc := ((((s).nx 7).nx 7).nx 7).num 1 } : Po).cs from hk) HC.out.2)
  have lg2 := HC.out.1.lt
  clear hr hm hk hbx
  go_wp2_with fail
  go_region_held3 (fun _ => True) (exact trivial)
    (first | (go_at_call 110; refine (roct_any T rb g 13 27 ({ ({ (zPo 5 fr tq te) with hi := (s).num 7, si := ((s).nx 7).num 7, st := (((s).nx 7).nx 7).num 7 } : Po) with sc := ((((s).nx 7).nx 7).nx 7).num 1 } : Po).cs none 0 0 8192 (((((s).nx 7).nx 7).nx 7).nx 1) _ (H.out.below (by repeat (first | exact B0 _ | apply Bs | apply Bd | apply BdN | apply Ba))) (HC.out.1.later (by repeat (first | exact B0 _ | apply Bs | apply Bd | apply BdN | apply Ba))) HC.out.2 rfl).mono ?_; rintro e w3 ⟨A, c, ⟨rfl, hr, hm, hk⟩, ho⟩))
  have HO := Lib.hid ho
  have lw := HM.out.size
  clear ho
  have hbx : Below w2.heap.size w2 _ := below_pre' hm (by repeat (first | exact B0 _ | apply Bs | apply Bd | apply BdN | apply Ba))
  replace HM := Lib.hid (mod_step HM.out hbx hm)
  replace H := Lib.hid (show RrAt w3 T rb ((((((s).nx 7).nx 7).nx 7).nx 1).ox) from hr)
  replace HC := Lib.hid (And.intro (show Blk w3 g 27 ({ ({ ({ (zPo 5 fr tq te) with hi := (s).num 7, si := ((s).nx 7).num 7, st := (((s).nx 7).nx 7).num 7 } : Po) with sc := ((((s).nx 7).nx 7).nx 7).num 1 } : Po) with SA := A, sn := (((((s).nx 7).nx 7).nx 7).nx 1).oct.length, sk := c } : Po).cs from hk) HC.out.2)
  have lg3 := HC.out.1.lt
  clear hr hm hk hbx
  go_wp2_with fail
  refine bodyPost_ret (v := .tuple #[]) (by simp [results, Try.results61, go_sem]) rfl ?_
  exact ⟨A, c, ⟨rfl, H.out, HM.out, HC.out.1⟩, own_mod HO.out (Mod.refl (fun _ => False) _) (fun _ _ h => h) (Nat.le_trans lw (by simp))⟩

def rS6 (s : St) : St := ((s).nx 7).nx 7
def rP6 (fr tq te : Int) (s : St) : Po := ({ (zPo 6 fr tq te) with ix := (s).num 7, hi := ((s).nx 7).num 7 } : Po)
set_option maxHeartbeats 1000000 in
theorem rfields6_any (T : Nat → Prop) (rb g : Nat) (fr tq te : Int) (s : St) (w : World) (h : RrAt w T rb s) (hb : Blk w g 27 (zPo 6 fr tq te).cs) (hg : ¬ T g) :
    Calls Try.prog 61 #[ri rb, .pointer (some ⟨g, 0, none⟩)] w (RrDid T rb g 27 (rP6 fr tq te s).cs (rS6 s) w) := by
  have q0 : w.cell? ⟨g, 0, none⟩ = some (.int .i64 6) := hb.cell 0
  have H := Lib.hid h
  have HC := Lib.hid (And.intro hb hg)
  have HM := Lib.hid (Mod.refl (fun i => T i ∨ i = g) w)
  have hmf := mkfn
  have hna1 := nil_rnumber rb
  have hna2 := nil_rflag rb
  have hna3 := nil_roctets rb
  have lg := hb.lt
  clear h hb hg
  go_enter Try.func61, Try.ntmps61
  go_wp2_with fail
  go_region_held3 (fun _ => True) (exact trivial)
    (first | (go_at_call 76; refine (rlongs_any T rb g w.heap.size 27 _ (zPo 6 fr tq te).cs (s) [4, 8] (by decide) (by intro o ho; simp only [List.mem_cons, List.not_mem_nil, or_false] at ho; rcases ho with rfl | rfl <;> rfl) (by simp) _ (H.out.below (by repeat (first | exact B0 _ | apply Bs | apply Bd | apply BdN | apply Ba))) (HC.out.1.later (by repeat (first | exact B0 _ | apply Bs | apply Bd | apply BdN | apply Ba))) HC.out.2 (by first | exact Blk.new _ _ _ | exact (Blk.new _ _ _).drew) (T_lt H.out) (fun h => by have := HC.out.1.lt; omega)).mono ?_; rintro e w1 ⟨rfl, hr, hm, hk⟩))
  have hbx : Below w.heap.size w _ := below_pre' hm (by repeat (first | exact B0 _ | apply Bs | apply Bd | apply BdN | apply Ba))
  replace HM := Lib.hid (mod_step HM.out hbx hm)
  replace H := Lib.hid (show RrAt w1 T rb (((s).nx 7).nx 7) from hr)
  replace HC := Lib.hid (And.intro (show Blk w1 g 27 ({ (zPo 6 fr tq te) with ix := (s).num 7, hi := ((s).nx 7).num 7 } : Po).cs from hk) HC.out.2)
  have lg1 := HC.out.1.lt
  clear hr hm hk hbx
  go_wp2_with fail
  refine bodyPost_ret (v := .tuple #[]) (by simp [results, Try.results61, go_sem]) rfl ?_
  exact ⟨rfl, H.out, HM.out, HC.out.1⟩

theorem rfields0_any (rb g : Nat) (kd fr tq te : Int) (hk : ¬ (1 ≤ kd ∧ kd ≤ 6)) (w : World) (hb : Blk w g 27 (zPo kd fr tq te).cs) :
    Calls Try.prog 61 #[ri rb, .pointer (some ⟨g, 0, none⟩)] w (RNone w) := by
  have q0 : w.cell? ⟨g, 0, none⟩ = some (.int .i64 kd) := hb.cell 0
  have e1 : (kd == 1) = false := by simp; omega
  have e2 : (kd == 2) = false := by simp; omega
  have e3 : (kd == 3) = false := by simp; omega
  have e4 : (kd == 4) = false := by simp; omega
  have e5 : (kd == 5) = false := by simp; omega
  have e6 : (kd == 6) = false := by simp; omega
  have lg := hb.lt
  clear hb hk
  go_enter Try.func61, Try.ntmps61
  go_wp2_with fail
  refine bodyPost_ret (v := .tuple #[]) (by simp [results, Try.results61, go_sem]) rfl ?_
  exact ⟨rfl, rfl⟩
end Go.Proofs.Ytnphnaggamfoiaa
