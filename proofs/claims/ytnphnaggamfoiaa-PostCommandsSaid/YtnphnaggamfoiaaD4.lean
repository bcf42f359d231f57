/- The coder that writes: fields (all kinds but that with entries). -/
import Derived.Test.YtnphnaggamfoiaaD3
namespace Go.Proofs.Ytnphnaggamfoiaa
open Go.RowKit
set_option maxRecDepth 20000
set_option linter.unusedVariables false
set_option linter.unusedSimpArgs false

theorem mod_pre {B : Nat} {K L : Nat → Prop} {a b c d : World} (h : Mod (Wr.Stays B K) a b) (hb : Below b.heap.size b c) (hm : Mod (Wr.Stays B (fun i => K i ∨ L i)) c d) : Mod (Wr.Stays B K) a d :=
  h.trans ((Mod.of_below (S := Wr.Stays B K) hb).trans (stays_back hm) (fun i hi => .inl hi)) (fun i hi => .inl hi)
theorem below_pre {a b c : World} {T : Nat → Prop} (hm : Mod T b c) (hb : Below a.heap.size a b) : Below a.heap.size a b := hb
theorem mod_pre0 {B : Nat} {K : Nat → Prop} {a b c d : World} (h : Mod (Wr.Stays B K) a b) (hb : Below b.heap.size b c) (hm : Mod (Wr.Stays B K) c d) : Mod (Wr.Stays B K) a d :=
  h.trans ((Mod.of_below (S := Wr.Stays B K) hb).trans hm (fun i hi => .inl hi)) (fun i hi => .inl hi)

/-- The numbers of a message lie in their range. -/
def PoI (P : Po) : Prop := I64 P.ix ∧ I64 P.lt ∧ I64 P.co ∧ I64 P.hi ∧ I64 P.si ∧ I64 P.st ∧ I64 P.sc

def wbody1 (xs : List Int) (P : Po) : List Int := putsL xs [(4, P.ix), (5, P.lt)]
set_option maxHeartbeats 1000000 in
theorem wfields1_any {B : Nat} {K : Nat → Prop} {p : Nat} {xs : List Int} (g : Nat) (P : Po) (hk : P.kd = 1) (hx : PoI P) (w : World) (h : Wr.WrIn B K w p xs) (hb : Blk w g 27 P.cs) (hs : Stay B K g) (hl : xs.length + (32) ≤ 140737488355328) :
    Calls Try.prog 61 #[wi p, .pointer (some ⟨g, 0, none⟩)] w (Wr.WDidIn B K p (wbody1 xs P) (.tuple #[]) w) := by
  have q0 : w.cell? ⟨g, 0, none⟩ = some (.int .i64 1) := (hb.cell 0).trans (by rw [← hk]; rfl)
  have H := Lib.hid h
  have HC := Lib.hid (And.intro hb hs)
  have HM := Lib.hid (Mod.refl (Wr.Stays B K) w)
  have HX := Lib.hid hx
  have HL := Lib.hid hl
  have hmf := mkfn
  have hna1 := nil_wnumber p
  have hna2 := nil_wflag p
  have hna3 := nil_woctets p
  have lg := hb.lt
  clear h hb hs hl hk hx
  go_enter Try.func61, Try.ntmps61
  go_wp2_with fail
  go_region_held3 (fun _ => True) (exact trivial)
    (first | (go_at_call 76; refine (wlongs_any (K := fun i => K i ∨ i = w.heap.size) g w.heap.size _ _ _ [(4, P.ix), (5, P.lt)] (by intro x hx; simp only [List.mem_cons, List.not_mem_nil, or_false] at hx; rcases hx with rfl | rfl; all_goals (refine ⟨rfl, ?_⟩; first | exact HX.out.1.2 | exact HX.out.2.1.2 | exact HX.out.2.2.1.2 | exact HX.out.2.2.2.1.2 | exact HX.out.2.2.2.2.1.2 | exact HX.out.2.2.2.2.2.1.2 | exact HX.out.2.2.2.2.2.2.2)) (by simp) _ (H.out.keep (by repeat (first | exact B0 _ | apply Bs | apply Bd | apply BdN | apply Ba)) (fun i hi => hi.elim .inr (fun e => .inl (by subst e; simp)))) (HC.out.1.later (by repeat (first | exact B0 _ | apply Bs | apply Bd | apply BdN | apply Ba))) (HC.out.2.imp id .inl) (by first | exact Blk.new _ _ _ | exact (Blk.new _ _ _).drew) (.inr (.inr rfl)) (by have := HL.out; simp; omega)).mono ?_; rintro e w1 ⟨rfl, hw, hm⟩))
  have hbx : Below w.heap.size w _ := below_pre hm (by repeat (first | exact B0 _ | apply Bs | apply Bd | apply BdN | apply Ba))
  replace H := Lib.hid (wr_back hw)
  replace HC := Lib.hid (And.intro ((HC.out.1.later (show Below _ _ _ from hbx)).kept hm (HC.out.2.more)) HC.out.2)
  replace HM := Lib.hid (mod_pre HM.out hbx hm)
  replace HL := Lib.hid (show (putsL xs [(4, P.ix), (5, P.lt)]).length + 16 ≤ 140737488355328 by have := putsL_len [(4, P.ix), (5, P.lt)] xs; have := HL.out; first | (simp at *; omega) | omega)
  clear hw hm hbx
  go_wp2_with fail
  refine bodyPost_ret (v := .tuple #[]) (by simp [results, Try.results61, go_sem]) rfl ?_
  exact ⟨rfl, H.out, HM.out⟩

def wbody2 (xs : List Int) (P : Po) : List Int := Wr.putL xs (if P.ok then 1 else 0) 1
set_option maxHeartbeats 1000000 in
theorem wfields2_any {B : Nat} {K : Nat → Prop} {p : Nat} {xs : List Int} (g : Nat) (P : Po) (hk : P.kd = 2) (hx : PoI P) (w : World) (h : Wr.WrIn B K w p xs) (hb : Blk w g 27 P.cs) (hs : Stay B K g) (hl : xs.length + (24) ≤ 140737488355328) :
    Calls Try.prog 61 #[wi p, .pointer (some ⟨g, 0, none⟩)] w (Wr.WDidIn B K p (wbody2 xs P) (.tuple #[]) w) := by
  have q0 : w.cell? ⟨g, 0, none⟩ = some (.int .i64 2) := (hb.cell 0).trans (by rw [← hk]; rfl)
  have H := Lib.hid h
  have HC := Lib.hid (And.intro hb hs)
  have HM := Lib.hid (Mod.refl (Wr.Stays B K) w)
  have HX := Lib.hid hx
  have HL := Lib.hid hl
  have hmf := mkfn
  have hna1 := nil_wnumber p
  have hna2 := nil_wflag p
  have hna3 := nil_woctets p
  have lg := hb.lt
  clear h hb hs hl hk hx
  go_enter Try.func61, Try.ntmps61
  go_wp2_with fail
  go_region_held3 (fun _ => True) (exact trivial)
    (first | (go_at_call 102; refine (wflag_any g 7 _ _ P.ok _ (H.out.below (by repeat (first | exact B0 _ | apply Bs | apply Bd | apply BdN | apply Ba))) (HC.out.1.later (by repeat (first | exact B0 _ | apply Bs | apply Bd | apply BdN | apply Ba))) HC.out.2 rfl (by have := HL.out; omega)).mono ?_; rintro e w1 ⟨rfl, hw, hm⟩))
  have hbx : Below w.heap.size w _ := below_pre hm (by repeat (first | exact B0 _ | apply Bs | apply Bd | apply BdN | apply Ba))
  replace H := Lib.hid (hw)
  replace HC := Lib.hid (And.intro ((HC.out.1.later (show Below _ _ _ from hbx)).kept hm (HC.out.2.not)) HC.out.2)
  replace HM := Lib.hid (mod_pre0 HM.out hbx hm)
  replace HL := Lib.hid (show (Wr.putL xs (if P.ok then 1 else 0) 1).length + 16 ≤ 140737488355328 by have := wputL_len xs (if P.ok then 1 else 0) 1; have := HL.out; first | (simp at *; omega) | omega)
  clear hw hm hbx
  go_wp2_with fail
  refine bodyPost_ret (v := .tuple #[]) (by simp [results, Try.results61, go_sem]) rfl ?_
  exact ⟨rfl, H.out, HM.out⟩

def wbody4 (xs : List Int) (P : Po) : List Int := putsL (Wr.putL xs (if P.ok then 1 else 0) 1) [(4, P.ix), (8, P.hi)]
set_option maxHeartbeats 1000000 in
theorem wfields4_any {B : Nat} {K : Nat → Prop} {p : Nat} {xs : List Int} (g : Nat) (P : Po) (hk : P.kd = 4) (hx : PoI P) (w : World) (h : Wr.WrIn B K w p xs) (hb : Blk w g 27 P.cs) (hs : Stay B K g) (hl : xs.length + (40) ≤ 140737488355328) :
    Calls Try.prog 61 #[wi p, .pointer (some ⟨g, 0, none⟩)] w (Wr.WDidIn B K p (wbody4 xs P) (.tuple #[]) w) := by
  have q0 : w.cell? ⟨g, 0, none⟩ = some (.int .i64 4) := (hb.cell 0).trans (by rw [← hk]; rfl)
  have H := Lib.hid h
  have HC := Lib.hid (And.intro hb hs)
  have HM := Lib.hid (Mod.refl (Wr.Stays B K) w)
  have HX := Lib.hid hx
  have HL := Lib.hid hl
  have hmf := mkfn
  have hna1 := nil_wnumber p
  have hna2 := nil_wflag p
  have hna3 := nil_woctets p
  have lg := hb.lt
  clear h hb hs hl hk hx
  go_enter Try.func61, Try.ntmps61
  go_wp2_with fail
  go_region_held3 (fun _ => True) (exact trivial)
    (first | (go_at_call 102; refine (wflag_any g 7 _ _ P.ok _ (H.out.below (by repeat (first | exact B0 _ | apply Bs | apply Bd | apply BdN | apply Ba))) (HC.out.1.later (by repeat (first | exact B0 _ | apply Bs | apply Bd | apply BdN | apply Ba))) HC.out.2 rfl (by have := HL.out; omega)).mono ?_; rintro e w1 ⟨rfl, hw, hm⟩))
  have hbx : Below w.heap.size w _ := below_pre hm (by repeat (first | exact B0 _ | apply Bs | apply Bd | apply BdN | apply Ba))
  replace H := Lib.hid (hw)
  replace HC := Lib.hid (And.intro ((HC.out.1.later (show Below _ _ _ from hbx)).kept hm (HC.out.2.not)) HC.out.2)
  replace HM := Lib.hid (mod_pre0 HM.out hbx hm)
  replace HL := Lib.hid (show (Wr.putL xs (if P.ok then 1 else 0) 1).length + 32 ≤ 140737488355328 by have := wputL_len xs (if P.ok then 1 else 0) 1; have := HL.out; first | (simp at *; omega) | omega)
  clear hw hm hbx
  go_wp2_with fail
  go_region_held3 (fun _ => True) (exact trivial)
    (first | (go_at_call 76; refine (wlongs_any (K := fun i => K i ∨ i = w1.heap.size) g w1.heap.size _ _ _ [(4, P.ix), (8, P.hi)] (by intro x hx; simp only [List.mem_cons, List.not_mem_nil, or_false] at hx; rcases hx with rfl | rfl; all_goals (refine ⟨rfl, ?_⟩; first | exact HX.out.1.2 | exact HX.out.2.1.2 | exact HX.out.2.2.1.2 | exact HX.out.2.2.2.1.2 | exact HX.out.2.2.2.2.1.2 | exact HX.out.2.2.2.2.2.1.2 | exact HX.out.2.2.2.2.2.2.2)) (by simp) _ (H.out.keep (by repeat (first | exact B0 _ | apply Bs | apply Bd | apply BdN | apply Ba)) (fun i hi => hi.elim .inr (fun e => .inl (by subst e; simp)))) (HC.out.1.later (by repeat (first | exact B0 _ | apply Bs | apply Bd | apply BdN | apply Ba))) (HC.out.2.imp id .inl) (by first | exact Blk.new _ _ _ | exact (Blk.new _ _ _).drew) (.inr (.inr rfl)) (by have := HL.out; simp; omega)).mono ?_; rintro e w2 ⟨rfl, hw, hm⟩))
  have hbx : Below w1.heap.size w1 _ := below_pre hm (by repeat (first | exact B0 _ | apply Bs | apply Bd | apply BdN | apply Ba))
  replace H := Lib.hid (wr_back hw)
  replace HC := Lib.hid (And.intro ((HC.out.1.later (show Below _ _ _ from hbx)).kept hm (HC.out.2.more)) HC.out.2)
  replace HM := Lib.hid (mod_pre HM.out hbx hm)
  replace HL := Lib.hid (show (putsL (Wr.putL xs (if P.ok then 1 else 0) 1) [(4, P.ix), (8, P.hi)]).length + 16 ≤ 140737488355328 by have := putsL_len [(4, P.ix), (8, P.hi)] (Wr.putL xs (if P.ok then 1 else 0) 1); have := HL.out; first | (simp at *; omega) | omega)
  clear hw hm hbx
  go_wp2_with fail
  refine bodyPost_ret (v := .tuple #[]) (by simp [results, Try.results61, go_sem]) rfl ?_
  exact ⟨rfl, H.out, HM.out⟩

def wbody5 (xs : List Int) (P : Po) (d : List Int) : List Int := Wr.octL (Wr.putL (putsL xs [(8, P.hi), (10, P.si), (11, P.st)]) P.sc 1) d
set_option maxHeartbeats 1000000 in
theorem wfields5_any {B : Nat} {K : Nat → Prop} {p : Nat} {xs : List Int} (g : Nat) (P : Po) (d : List Int) (hk : P.kd = 5) (hx : PoI P) (w : World) (h : Wr.WrIn B K w p xs) (hb : Blk w g 27 P.cs) (hs : Stay B K g) (hr : d.length = P.sn ∧ Rd w (fun i => i < B) 1 (.slice P.SA P.sn P.sk) P.sn (bts d)) (hl : xs.length + (56 + d.length) ≤ 140737488355328) :
    Calls Try.prog 61 #[wi p, .pointer (some ⟨g, 0, none⟩)] w (Wr.WDidIn B K p (wbody5 xs P d) (.tuple #[]) w) := by
  have q0 : w.cell? ⟨g, 0, none⟩ = some (.int .i64 5) := (hb.cell 0).trans (by rw [← hk]; rfl)
  have H := Lib.hid h
  have HC := Lib.hid (And.intro hb hs)
  have HM := Lib.hid (Mod.refl (Wr.Stays B K) w)
  have HX := Lib.hid hx
  have HR := Lib.hid (show d.length = P.sn ∧ Rd w (fun i => i < B) 1 (.slice P.SA d.length P.sk) d.length (bts d) by rw [hr.1]; exact ⟨rfl, hr.2⟩)
  have HL := Lib.hid (show xs.length + 56 + d.length ≤ 140737488355328 by omega)
  have hmf := mkfn
  have hna1 := nil_wnumber p
  have hna2 := nil_wflag p
  have hna3 := nil_woctets p
  have lg := hb.lt
  clear h hb hs hl hk hx hr
  go_enter Try.func61, Try.ntmps61
  go_wp2_with fail
  go_region_held3 (fun _ => True) (exact trivial)
    (first | (go_at_call 76; refine (wlongs_any (K := fun i => K i ∨ i = w.heap.size) g w.heap.size _ _ _ [(8, P.hi), (10, P.si), (11, P.st)] (by intro x hx; simp only [List.mem_cons, List.not_mem_nil, or_false] at hx; rcases hx with rfl | rfl | rfl; all_goals (refine ⟨rfl, ?_⟩; first | exact HX.out.1.2 | exact HX.out.2.1.2 | exact HX.out.2.2.1.2 | exact HX.out.2.2.2.1.2 | exact HX.out.2.2.2.2.1.2 | exact HX.out.2.2.2.2.2.1.2 | exact HX.out.2.2.2.2.2.2.2)) (by simp) _ (H.out.keep (by repeat (first | exact B0 _ | apply Bs | apply Bd | apply BdN | apply Ba)) (fun i hi => hi.elim .inr (fun e => .inl (by subst e; simp)))) (HC.out.1.later (by repeat (first | exact B0 _ | apply Bs | apply Bd | apply BdN | apply Ba))) (HC.out.2.imp id .inl) (by first | exact Blk.new _ _ _ | exact (Blk.new _ _ _).drew) (.inr (.inr rfl)) (by have := HL.out; simp; omega)).mono ?_; rintro e w1 ⟨rfl, hw, hm⟩))
  have hbx : Below w.heap.size w _ := below_pre hm (by repeat (first | exact B0 _ | apply Bs | apply Bd | apply BdN | apply Ba))
  replace HR := Lib.hid (And.intro HR.out.1 ((HR.out.2.below hbx (fun i hi => Nat.lt_of_lt_of_le hi H.out.1)).kept hm (fun i hi hs => by have := hs.1; omega)))
  replace H := Lib.hid (wr_back hw)
  replace HC := Lib.hid (And.intro ((HC.out.1.later (show Below _ _ _ from hbx)).kept hm (HC.out.2.more)) HC.out.2)
  replace HM := Lib.hid (mod_pre HM.out hbx hm)
  replace HL := Lib.hid (show (putsL xs [(8, P.hi), (10, P.si), (11, P.st)]).length + d.length + 32 ≤ 140737488355328 by have := putsL_len [(8, P.hi), (10, P.si), (11, P.st)] xs; have := HL.out; first | (simp at *; omega) | omega)
  clear hw hm hbx
  go_wp2_with fail
  go_region_held3 (fun _ => True) (exact trivial)
    (first | (go_at_call 44; refine (wnum_any g 12 _ _ P.sc 1 HX.out.2.2.2.2.2.2.2 _ (H.out.below (by repeat (first | exact B0 _ | apply Bs | apply Bd | apply BdN | apply Ba))) (HC.out.1.later (by repeat (first | exact B0 _ | apply Bs | apply Bd | apply BdN | apply Ba))) HC.out.2 rfl (by have := HL.out; omega)).mono ?_; rintro e w2 ⟨rfl, hw, hm⟩))
  have hbx : Below w1.heap.size w1 _ := below_pre hm (by repeat (first | exact B0 _ | apply Bs | apply Bd | apply BdN | apply Ba))
  replace HR := Lib.hid (And.intro HR.out.1 ((HR.out.2.below hbx (fun i hi => Nat.lt_of_lt_of_le hi H.out.1)).kept hm (fun i hi hs => by have := hs.1; omega)))
  replace H := Lib.hid (hw)
  replace HC := Lib.hid (And.intro ((HC.out.1.later (show Below _ _ _ from hbx)).kept hm (HC.out.2.not)) HC.out.2)
  replace HM := Lib.hid (mod_pre0 HM.out hbx hm)
  replace HL := Lib.hid (show (Wr.putL (putsL xs [(8, P.hi), (10, P.si), (11, P.st)]) P.sc 1).length + d.length + 24 ≤ 140737488355328 by have := wputL_len (putsL xs [(8, P.hi), (10, P.si), (11, P.st)]) P.sc 1; have := HL.out; first | (simp at *; omega) | omega)
  clear hw hm hbx
  go_wp2_with fail
  go_region_held3 (fun _ => True) (exact trivial)
    (first | (go_at_call 104; refine (woct_any (T := fun i => i < B) g 13 _ _ P.SA P.sk d 8192 _ (H.out.below (by repeat (first | exact B0 _ | apply Bs | apply Bd | apply BdN | apply Ba))) (HC.out.1.later (by repeat (first | exact B0 _ | apply Bs | apply Bd | apply BdN | apply Ba))) HC.out.2 (by rw [HR.out.1]; rfl) (HR.out.2.below (by repeat (first | exact B0 _ | apply Bs | apply Bd | apply BdN | apply Ba)) (fun i hi => Nat.lt_of_lt_of_le hi H.out.1)) (fun i hi => ⟨Nat.lt_of_lt_of_le hi (Nat.le_trans H.out.1 (by simp)), .inl hi⟩) (by have := HL.out; omega)).mono ?_; rintro e w3 ⟨rfl, hw, hm⟩))
  have hbx : Below w2.heap.size w2 _ := below_pre hm (by repeat (first | exact B0 _ | apply Bs | apply Bd | apply BdN | apply Ba))
  replace HR := Lib.hid (And.intro HR.out.1 ((HR.out.2.below hbx (fun i hi => Nat.lt_of_lt_of_le hi H.out.1)).kept hm (fun i hi hs => by have := hs.1; omega)))
  replace H := Lib.hid (hw)
  replace HC := Lib.hid (And.intro ((HC.out.1.later (show Below _ _ _ from hbx)).kept hm (HC.out.2.not)) HC.out.2)
  replace HM := Lib.hid (mod_pre0 HM.out hbx hm)
  replace HL := Lib.hid (show (Wr.octL (Wr.putL (putsL xs [(8, P.hi), (10, P.si), (11, P.st)]) P.sc 1) d).length + 16 ≤ 140737488355328 by have := woctL_len (Wr.putL (putsL xs [(8, P.hi), (10, P.si), (11, P.st)]) P.sc 1) d; have := HL.out; first | (simp at *; omega) | omega)
  clear hw hm hbx
  go_wp2_with fail
  refine bodyPost_ret (v := .tuple #[]) (by simp [results, Try.results61, go_sem]) rfl ?_
  exact ⟨rfl, H.out, HM.out⟩

def wbody6 (xs : List Int) (P : Po) : List Int := putsL xs [(4, P.ix), (8, P.hi)]
set_option maxHeartbeats 1000000 in
theorem wfields6_any {B : Nat} {K : Nat → Prop} {p : Nat} {xs : List Int} (g : Nat) (P : Po) (hk : P.kd = 6) (hx : PoI P) (w : World) (h : Wr.WrIn B K w p xs) (hb : Blk w g 27 P.cs) (hs : Stay B K g) (hl : xs.length + (32) ≤ 140737488355328) :
    Calls Try.prog 61 #[wi p, .pointer (some ⟨g, 0, none⟩)] w (Wr.WDidIn B K p (wbody6 xs P) (.tuple #[]) w) := by
  have q0 : w.cell? ⟨g, 0, none⟩ = some (.int .i64 6) := (hb.cell 0).trans (by rw [← hk]; rfl)
  have H := Lib.hid h
  have HC := Lib.hid (And.intro hb hs)
  have HM := Lib.hid (Mod.refl (Wr.Stays B K) w)
  have HX := Lib.hid hx
  have HL := Lib.hid hl
  have hmf := mkfn
  have hna1 := nil_wnumber p
  have hna2 := nil_wflag p
  have hna3 := nil_woctets p
  have lg := hb.lt
  clear h hb hs hl hk hx
  go_enter Try.func61, Try.ntmps61
  go_wp2_with fail
  go_region_held3 (fun _ => True) (exact trivial)
    (first | (go_at_call 76; refine (wlongs_any (K := fun i => K i ∨ i = w.heap.size) g w.heap.size _ _ _ [(4, P.ix), (8, P.hi)] (by intro x hx; simp only [List.mem_cons, List.not_mem_nil, or_false] at hx; rcases hx with rfl | rfl; all_goals (refine ⟨rfl, ?_⟩; first | exact HX.out.1.2 | exact HX.out.2.1.2 | exact HX.out.2.2.1.2 | exact HX.out.2.2.2.1.2 | exact HX.out.2.2.2.2.1.2 | exact HX.out.2.2.2.2.2.1.2 | exact HX.out.2.2.2.2.2.2.2)) (by simp) _ (H.out.keep (by repeat (first | exact B0 _ | apply Bs | apply Bd | apply BdN | apply Ba)) (fun i hi => hi.elim .inr (fun e => .inl (by subst e; simp)))) (HC.out.1.later (by repeat (first | exact B0 _ | apply Bs | apply Bd | apply BdN | apply Ba))) (HC.out.2.imp id .inl) (by first | exact Blk.new _ _ _ | exact (Blk.new _ _ _).drew) (.inr (.inr rfl)) (by have := HL.out; simp; omega)).mono ?_; rintro e w1 ⟨rfl, hw, hm⟩))
  have hbx : Below w.heap.size w _ := below_pre hm (by repeat (first | exact B0 _ | apply Bs | apply Bd | apply BdN | apply Ba))
  replace H := Lib.hid (wr_back hw)
  replace HC := Lib.hid (And.intro ((HC.out.1.later (show Below _ _ _ from hbx)).kept hm (HC.out.2.more)) HC.out.2)
  replace HM := Lib.hid (mod_pre HM.out hbx hm)
  replace HL := Lib.hid (show (putsL xs [(4, P.ix), (8, P.hi)]).length + 16 ≤ 140737488355328 by have := putsL_len [(4, P.ix), (8, P.hi)] xs; have := HL.out; first | (simp at *; omega) | omega)
  clear hw hm hbx
  go_wp2_with fail
  refine bodyPost_ret (v := .tuple #[]) (by simp [results, Try.results61, go_sem]) rfl ?_
  exact ⟨rfl, H.out, HM.out⟩
end Go.Proofs.Ytnphnaggamfoiaa
