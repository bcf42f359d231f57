/- The coder that reads: fields of a message with entries. -/
import Derived.Test.YtnphnaggamfoiaaE5
import Derived.Test.YtnphnaggamfoiaaC10
namespace Go.Proofs.Ytnphnaggamfoiaa
open Go.RowKit
set_option maxRecDepth 20000
set_option linter.unusedVariables false
set_option linter.unusedSimpArgs false

def entS (s : St) : St := ((s.nx 7).nx 1).ox
def entE (s : St) (ix : Int) : Ed := ⟨s.num 7, ix, (s.nx 7).num 1, ((s.nx 7).nx 1).oct⟩
def readS : St → Nat → St
  | s, 0 => s
  | s, n + 1 => readS (entS s) n
def readE : St → Int → Nat → List Ed
  | _, _, 0 => []
  | s, b, n + 1 => entE s b :: readE (entS s) (b + 1) n
theorem read_snoc : ∀ (n : Nat) (s : St) (b : Int), readS s (n + 1) = entS (readS s n) ∧ readE s b (n + 1) = readE s b n ++ [entE (readS s n) (b + n)]
  | 0, s, b => ⟨rfl, by simp [readE, readS]⟩
  | n + 1, s, b => by
    obtain ⟨h1, h2⟩ := read_snoc n (entS s) (b + 1)
    refine ⟨h1, ?_⟩
    show entE s b :: readE (entS s) (b + 1) (n + 1) = entE s b :: readE (entS s) (b + 1) n ++ [entE (readS (entS s) n) (b + ((n + 1 : Nat) : Int))]
    rw [h2, List.cons_append]
    congr 3
    rw [show b + 1 + (n : Int) = b + ((n + 1 : Nat) : Int) by omega]
def rS3a (s : St) : St := ((((s).nx 7).nx 7).nx 7).nx 7
def rP3a (fr tq te : Int) (s : St) : Po := ({ (zPo 3 fr tq te) with ix := (s).num 7, lt := ((s).nx 7).num 7, co := (((s).nx 7).nx 7).num 7, hi := ((((s).nx 7).nx 7).nx 7).num 7 } : Po)
/-- How many entries are read. -/
def rN3 (s : St) : Nat := if (rS3a s).mx.e = 0 then ((rS3a s).num 1).toNat else 0
def rS3 (s : St) : St := readS (rS3a s).mx (rN3 s)
def rE3 (s : St) : List Ed := readE (rS3a s).mx (s.num 7 + 1) (rN3 s)
def RDid3 (T : Nat → Prop) (rb g : Nat) (fr tq te : Int) (s : St) (w : World) (e : Ending) (w' : World) : Prop :=
  ∃ A l, RrDid T rb g 27 ({ rP3a fr tq te s with EA := A, en := rN3 s, ec := rN3 s } : Po).cs (rS3 s) w e w' ∧ l.map En.ed = rE3 s ∧
    PoAt w' (fun i => w.heap.size ≤ i ∧ i < w'.heap.size) ({ rP3a fr tq te s with EA := A, en := rN3 s, ec := rN3 s } : Po) l []
/-- The row of entries: those that are read, and those still to be. -/
def rowZ (l : List En) (n : Nat) : Array Value := (rowE (l ++ List.replicate n zEn)).toArray
theorem rowZ_at (l : List En) (n j : Nat) (hn : 0 < n) (hj : j < 4) : (rowZ l n)[l.length * 4 + j]? = zEn.cells[j]? := by
  have h := rowE_at (l ++ List.replicate n zEn) l.length (by simp; omega) j hj
  simp only [rowZ, List.getElem?_toArray]
  rw [h, List.getElem_append_right (Nat.le_refl _)]
  simp
theorem rowZ_set (l : List En) (n : Nat) (a b c : Int) (A : Option Addr) (k : Nat) (bs : List Int) :
    ((((rowZ l (n + 1)).setIfInBounds (l.length * 4 + 1) (.int .i64 b)).setIfInBounds (l.length * 4) (.int .i64 a)).setIfInBounds (l.length * 4 + 2) (.int .i64 c)).setIfInBounds (l.length * 4 + 3) (.slice A bs.length k) = rowZ (l ++ [⟨a, b, c, A, k, bs⟩]) n := by
  have e0 : rowE (l ++ List.replicate (n + 1) zEn) = rowE l ++ (zEn.cells ++ rowE (List.replicate n zEn)) := by
    rw [rowE_append, List.replicate_succ]; rfl
  have e1 : rowE (l ++ [⟨a, b, c, A, k, bs⟩] ++ List.replicate n zEn) = rowE l ++ ((⟨a, b, c, A, k, bs⟩ : En).cells ++ rowE (List.replicate n zEn)) := by
    rw [List.append_assoc, rowE_append]; rfl
  have hl : (rowE l).length = l.length * 4 := rowE_length l
  unfold rowZ
  rw [e0, e1, ← hl]
  simp only [List.setIfInBounds_toArray]
  congr 1
  rw [List.set_append_right _ _ (by omega)]
  simp [zEn, List.set_append_right]
theorem oct_len {s : St} (h : s.Ok) : s.oct.length ≤ 65535 := by
  have hb := St.num_bd (n := 2) (.inr (.inl rfl)) h
  rw [show Wr.p256 2 = 65536 by decide] at hb
  show ((s.nx 2).some (s.num 2)).length ≤ 65535
  unfold St.some
  split
  · unfold Wr.bytV
    split
    · rw [List.length_take]; omega
    · simp
  · simp
theorem read_ok {s : St} (h : s.Ok) : ∀ n, (readS s n).Ok := by
  intro n
  induction n generalizing s with
  | zero => exact h
  | succ n ih => exact ih (((h.nx 7).nx 1).ox)
theorem mod_t {T : Nat → Prop} {ge : Nat} {a b c d : World} (h : Mod (fun i => T i ∨ i = ge) a b) (hb : Below b.heap.size b c) (hm : Mod (fun i => T i ∨ i = ge) c d) : Mod (fun i => T i ∨ i = ge) a d := mod_step h hb hm

set_option maxHeartbeats 4000000 in
theorem rfields3_any (T : Nat → Prop) (rb g : Nat) (fr tq te : Int) (s : St) (w : World) (h : RrAt w T rb s) (hb : Blk w g 27 (zPo 3 fr tq te).cs) (hg : ¬ T g) :
    Calls Try.prog 61 #[ri rb, .pointer (some ⟨g, 0, none⟩)] w (RDid3 T rb g fr tq te s w) := by
  have q0 : w.cell? ⟨g, 0, none⟩ = some (.int .i64 3) := hb.cell 0
  have hok := h.2.2.1
  have hix := St.num_bd (n := 7) (.inr (.inr rfl)) hok
  have hp7 : Wr.p256 7 = 72057594037927936 := by decide
  rw [hp7] at hix
  have H := Lib.hid h
  have HC := Lib.hid (And.intro hb hg)
  have HM := Lib.hid (Mod.refl (fun i => T i ∨ i = g) w)
  have hmf := mkfn
  have hna1 := nil_rnumber rb
  have hna3 := nil_roctets rb
  have hna4 := nil_rmany rb
  have lg := hb.lt
  clear h hb hg hok hp7
  go_enter Try.func61, Try.ntmps61
  go_wp2_with fail
  go_region_held3 (fun _ => True) (exact trivial)
    (first | (go_at_call 76; refine (rlongs_any T rb g w.heap.size 27 _ (zPo 3 fr tq te).cs (s) [4, 5, 6, 8] (by decide) (by intro o ho; simp only [List.mem_cons, List.not_mem_nil, or_false] at ho; rcases ho with rfl | rfl | rfl | rfl <;> rfl) (by simp) _ (H.out.below (by repeat (first | exact B0 _ | apply Bs | apply Bd | apply BdN | apply Ba))) (HC.out.1.later (by repeat (first | exact B0 _ | apply Bs | apply Bd | apply BdN | apply Ba))) HC.out.2 (by first | exact Blk.new _ _ _ | exact (Blk.new _ _ _).drew) (T_lt H.out) (fun h => by have := HC.out.1.lt; omega)).mono ?_; rintro e w1 ⟨rfl, hr, hm, hk⟩))
  have hbx : Below w.heap.size w _ := below_pre' hm (by repeat (first | exact B0 _ | apply Bs | apply Bd | apply BdN | apply Ba))
  replace HM := Lib.hid (mod_step HM.out hbx hm)
  replace H := Lib.hid (show RrAt w1 T rb (((((s).nx 7).nx 7).nx 7).nx 7) from hr)
  replace HC := Lib.hid (And.intro (show Blk w1 g 27 ({ (zPo 3 fr tq te) with ix := (s).num 7, lt := ((s).nx 7).num 7, co := (((s).nx 7).nx 7).num 7, hi := ((((s).nx 7).nx 7).nx 7).num 7 } : Po).cs from hk) HC.out.2)
  have lg1 := HC.out.1.lt
  clear hr hm hk hbx
  clear q0
  replace H := Lib.hid (show RrAt w1 T rb (rS3a s) from H.out)
  replace HC := Lib.hid (And.intro (show Blk w1 g 27 (rP3a fr tq te s).cs from HC.out.1) HC.out.2)
  have lw0 := HM.out.size
  go_wp2_with fail
  refine (rmany_any T rb g 27 _ none 0 0 (rS3a s) _ H.out HC.out.1 HC.out.2 rfl).mono ?_
  rintro e w2 (⟨he, rfl, hr, hm, hk⟩ | ⟨he, ge, hge, ⟨rfl, hr, hm, hk⟩, hbe⟩)
  · have hn : rN3 s = 0 := by unfold rN3; rw [if_neg he]
    have HN := Lib.hid hn
    replace HM := Lib.hid (HM.out.trans hm (fun i hi => .inl hi))
    have HR := Lib.hid hr
    have HK := Lib.hid hk
    have y9 : w2.cell? ⟨g, 9, none⟩ = some (.slice none 0 0) := hk.cell 9
    have lg2 := hk.lt
    clear he hr hm hk hn H
    go_wp2_with fail
    refine wp_loop_rounds 1 ?_
    rw [rounds_succ]
    go_wp2_with fail
    refine bodyPost_ret (v := .tuple #[]) (by simp [results, Try.results61, go_sem]) rfl ?_
    unfold RDid3 rS3 rE3
    rw [HN.out]
    exact ⟨none, [], ⟨rfl, HR.out, HM.out, HK.out⟩, rfl, fun i hi => hi.2, rfl, by simp, Rd.nil _ _ _, by simp, rfl, (show 0 ≤ 140737488351232 by omega), Rd.nil _ _ _⟩
  · have hok1 := H.out.2.2.1
    obtain ⟨e1, e8⟩ := St.mx_ok hok1 he
    have hn : rN3 s = ((rS3a s).num 1).toNat := by unfold rN3; rw [if_pos he]
    rw [← hn] at hk hbe e8
    obtain ⟨n, hnn⟩ : ∃ n, n = rN3 s := ⟨_, rfl⟩
    rw [← hnn] at hk hbe e8
    have HN := Lib.hid hnn
    obtain ⟨P2, hP2⟩ : ∃ P2 : Po, P2 = { rP3a fr tq te s with EA := some ⟨ge, 0, none⟩, en := n, ec := n } := ⟨_, rfl⟩
    have hk' : Blk w2 g 27 P2.cs := by rw [hP2]; exact hk
    have HP2 := Lib.hid hP2
    have hne : g ≠ ge := by have := HC.out.1.lt; omega
    have hTg := HC.out.2
    replace HM := Lib.hid (HM.out.trans hm (fun i hi => .inl hi))
    have HR := Lib.hid hr
    have HE := Lib.hid hbe
    have hTe : ¬ T ge := fun h => by have := H.out.2.1 _ h; omega
    have hT2 : ∀ i, T i → i < w2.heap.size := hr.2.1
    have le2 := hbe.lt
    have y9 : w2.cell? ⟨g, 9, none⟩ = some (.slice (some ⟨ge, 0, none⟩) n n) := (hk'.cell 9).trans (by rw [hP2]; rfl)
    have y4' : P2.ix = s.num 7 := by rw [hP2]; rfl
    have y9' : P2.EA = some ⟨ge, 0, none⟩ ∧ P2.en = n ∧ P2.ec = n := by rw [hP2]; exact ⟨rfl, rfl, rfl⟩
    have HY := Lib.hid (And.intro y4' y9')
    have HK := Lib.hid hk'
    have lg2 := hk'.lt
    have HT := Lib.hid (And.intro hTg (And.intro hTe (And.intro hT2 hok1)))
    have lw1 := hm.size
    have lww := HM.out.size
    obtain ⟨s1, hs1⟩ : ∃ s1, s1 = (rS3a s).mx := ⟨_, rfl⟩
    rw [← hs1] at HR
    have HS := Lib.hid hs1
    have hs1ok : s1.Ok := by rw [hs1]; exact hok1.mx
    have HS1 := Lib.hid hs1ok
    have HGE := Lib.hid hge
    clear hge he hr hm hk hk' hbe hn hnn hP2 hTg hTe hT2 hok1 e1 y4' y9' hs1 hs1ok H HC
    go_wp2_with fail
    clear y9
    go_loopw [56] (fun i wr => ∃ (k : Nat) (l : List En), k ≤ n ∧ i = .int .i64 k ∧ l.length = k ∧ RrAt wr T rb (readS s1 k) ∧ Mod (fun i => T i ∨ i = ge) w2 wr ∧ Blk wr g 27 P2.cs ∧ Blk wr ge 46 (rowZ l (n - k)) ∧ l.map En.ed = readE s1 (s.num 7 + 1) k ∧ ∀ x ∈ l, x.ok wr (fun i => w2.heap.size ≤ i ∧ i < wr.heap.size)) (fun i _ => n - (intOf i).toNat)
    case atStart => exact ⟨0, [], Nat.zero_le _, rfl, rfl, HR.out, Mod.refl _ _, HK.out, HE.out, rfl, by simp⟩
    case round =>
      obtain ⟨k, l, hkn, rfl, hlk, hr, hm, hbg, hbe, hle, hdx⟩ := hrel
      subst hlk
      have HRr := Lib.hid hr
      have HMr := Lib.hid hm
      have HG := Lib.hid hbg
      have HEr := Lib.hid hbe
      have HLE := Lib.hid (And.intro hle hdx)
      have lw := hm.size
      have lgr := hbg.lt
      have ler := hbe.lt
      have y4 : wr.cell? ⟨g, 4, none⟩ = some (.int .i64 (s.num 7)) := (hbg.cell 4).trans (by rw [← HY.out.1]; rfl)
      have y9 : wr.cell? ⟨g, 9, none⟩ = some (.slice (some ⟨ge, 0, none⟩) n n) := (hbg.cell 9).trans (by rw [← HY.out.2.1, ← HY.out.2.2.1]; show some (Value.slice P2.EA P2.en P2.ec) = some (Value.slice P2.EA P2.en P2.en); rw [HY.out.2.2.2, HY.out.2.2.1])
      clear hr hm hbg hbe hle hdx
      by_cases hlt : l.length < n
      · have hlt2 : (l.length : Int) < (n : Int) := by omega
        obtain ⟨m, hnm⟩ : ∃ m, n - l.length = m + 1 := ⟨n - l.length - 1, by omega⟩
        rw [hnm] at HEr
        have hw1 : IntKind.i64.wrap (s.num 7 + 1) = s.num 7 + 1 := by go_arith
        have hw2 : IntKind.i64.wrap (s.num 7 + 1 + l.length) = s.num 7 + 1 + l.length := by go_arith
        have y1 : wr.cell? ⟨ge, l.length * 4 + 1, none⟩ = some (.int .i64 0) := (HEr.out.cell _).trans (rowZ_at l (m + 1) 1 (by omega) (by omega))
        have fz := HEr.out.frozen (l.length * 4 + 1)
        have m1 : Mod (fun i => T i ∨ i = ge) wr (wr.setCell ⟨ge, l.length * 4 + 1, none⟩ (.int .i64 (s.num 7 + 1 + l.length))) := (Mod.refl _ wr).setCell (p := ⟨ge, l.length * 4 + 1, none⟩) (.inl (.inr rfl)) _
        have m0 : Mod (fun i => i = ge) wr (wr.setCell ⟨ge, l.length * 4 + 1, none⟩ (.int .i64 (s.num 7 + 1 + l.length))) := (Mod.refl (fun i => i = ge) wr).setCell (p := ⟨ge, l.length * 4 + 1, none⟩) (.inl rfl) _
        have HR2 := Lib.hid (HRr.out.kept m0 (fun i hi e => HT.out.2.1 (e ▸ hi)))
        have HG2 := Lib.hid (HG.out.kept m0 hne)
        have HE2 := Lib.hid (HEr.out.set_ (l.length * 4 + 1) (.int .i64 (s.num 7 + 1 + l.length)))
        have HM2 := Lib.hid m1
        clear m1 m0
        go_wp2_with fail
        obtain ⟨wa, hwa⟩ : ∃ wa, wa = wr.setCell ⟨ge, l.length * 4 + 1, none⟩ (.int .i64 (s.num 7 + 1 + l.length)) := ⟨_, rfl⟩
        rw [← hwa] at HR2 HG2 HE2 HM2 ⊢
        clear hwa y1 y4 y9 fz
        obtain ⟨sk, hsk⟩ : ∃ sk, sk = readS s1 l.length := ⟨_, rfl⟩
        have HSK := Lib.hid hsk
        rw [← hsk] at HR2
        clear hsk HRr HEr
        go_region_held3 (fun _ => True) (exact trivial)
          (first | (go_at_call 48; refine (rnum_any T rb ge (l.length * 4) 7 46 _ 0 sk _ (HR2.out.below (by repeat (first | exact B0 _ | apply Bs | apply Bd | apply BdN | apply Ba))) (HE2.out.later (by repeat (first | exact B0 _ | apply Bs | apply Bd | apply BdN | apply Ba))) HT.out.2.1 (by rw [Array.getElem?_setIfInBounds_ne (by omega)]; exact rowZ_at l (m + 1) 0 (by omega) (by omega))).mono ?_; rw [num0]; rintro e w3 ⟨rfl, hr, hm, hk⟩))
        have hbx : Below wa.heap.size wa _ := below_pre' hm (by repeat (first | exact B0 _ | apply Bs | apply Bd | apply BdN | apply Ba))
        replace HR2 := Lib.hid (show RrAt w3 T rb (sk.nx 7) from hr)
        replace HG2 := Lib.hid ((HG2.out.later hbx).kept hm (fun h => h.elim HT.out.1 hne))
        replace HM2 := Lib.hid (mod_t HM2.out hbx hm)
        replace HE2 := Lib.hid hk
        clear hr hm hk hbx
        go_wp2_with fail
        go_region_held3 (fun _ => True) (exact trivial)
          (first | (go_at_call 48; refine (rnum_any T rb ge (l.length * 4 + 2) 1 46 _ 0 (sk.nx 7) _ (HR2.out.below (by repeat (first | exact B0 _ | apply Bs | apply Bd | apply BdN | apply Ba))) (HE2.out.later (by repeat (first | exact B0 _ | apply Bs | apply Bd | apply BdN | apply Ba))) HT.out.2.1 (by rw [Array.getElem?_setIfInBounds_ne (by omega)]; rw [Array.getElem?_setIfInBounds_ne (by omega)]; exact rowZ_at l (m + 1) 2 (by omega) (by omega))).mono ?_; rw [num0]; rintro e w4 ⟨rfl, hr, hm, hk⟩))
        have hbx : Below w3.heap.size w3 _ := below_pre' hm (by repeat (first | exact B0 _ | apply Bs | apply Bd | apply BdN | apply Ba))
        replace HR2 := Lib.hid (show RrAt w4 T rb ((sk.nx 7).nx 1) from hr)
        replace HG2 := Lib.hid ((HG2.out.later hbx).kept hm (fun h => h.elim HT.out.1 hne))
        replace HM2 := Lib.hid (mod_t HM2.out hbx hm)
        replace HE2 := Lib.hid hk
        clear hr hm hk hbx
        go_wp2_with fail
        go_region_held3 (fun _ => True) (exact trivial)
          (first | (go_at_call 110; refine (roct_any T rb ge (l.length * 4 + 3) 46 _ none 0 0 1200 ((sk.nx 7).nx 1) _ (HR2.out.below (by repeat (first | exact B0 _ | apply Bs | apply Bd | apply BdN | apply Ba))) (HE2.out.later (by repeat (first | exact B0 _ | apply Bs | apply Bd | apply BdN | apply Ba))) HT.out.2.1 (by rw [Array.getElem?_setIfInBounds_ne (by omega)]; rw [Array.getElem?_setIfInBounds_ne (by omega)]; rw [Array.getElem?_setIfInBounds_ne (by omega)]; exact rowZ_at l (m + 1) 3 (by omega) (by omega))).mono ?_; rintro e w5 ⟨A, c, ⟨rfl, hr, hm, hk⟩, ho⟩))
        have l24 := HMr.out.size
        have l44 := HM2.out.size
        have HO := Lib.hid (own_mod (base' := w2.heap.size) ho (Mod.refl (fun _ => False) _) (fun _ _ h => h) (by simp; omega))
        clear ho
        have hbx : Below w4.heap.size w4 _ := below_pre' hm (by repeat (first | exact B0 _ | apply Bs | apply Bd | apply BdN | apply Ba))
        replace HR2 := Lib.hid (show RrAt w5 T rb (entS sk) from hr)
        replace HG2 := Lib.hid ((HG2.out.later hbx).kept hm (fun h => h.elim HT.out.1 hne))
        replace HM2 := Lib.hid (mod_t HM2.out hbx hm)
        replace HE2 := Lib.hid hk
        clear hr hm hk hbx
        rw [rowZ_set l m] at HE2
        go_wp2_with fail
        have MT := HMr.out.trans HM2.out (fun i hi => .inl hi)
        have l45 := HM2.out.size
        go_roundw
        case rel =>
          have hrs := read_snoc l.length s1 (s.num 7 + 1)
          refine ⟨l.length + 1, l ++ [⟨sk.num 7, s.num 7 + 1 + l.length, (sk.nx 7).num 1, A, c, ((sk.nx 7).nx 1).oct⟩], by omega, by go_num, by simp, by rw [hrs.1, ← HSK.out]; exact HR2.out, MT, HG2.out, by rw [show n - (l.length + 1) = m by omega]; exact HE2.out, by rw [List.map_append, HLE.out.1, hrs.2, ← HSK.out]; rfl, ?_⟩
          intro x hx
          rcases List.mem_append.1 hx with hx | hx
          · have ho := HLE.out.2 x hx
            exact ⟨(ho.1.kept HM2.out (fun i hi h => h.elim (fun h => by have := HT.out.2.2.1 i h; omega) (fun h => by omega))).mono (fun i hi => ⟨hi.1, Nat.lt_of_lt_of_le hi.2 l45⟩), ho.2⟩
          · rw [List.mem_singleton] at hx
            subst hx
            have hok := ((show sk.Ok by rw [HSK.out]; exact read_ok HS1.out _).nx 7).nx 1
            exact ⟨(Rd.of_own HO.out).mono (fun i hi => ⟨own_ge HO.out i hi, own_lt HO.out i hi⟩), by have := oct_len hok; show ((sk.nx 7).nx 1).oct.length ≤ _; omega⟩
        case measure => simp [intOf]; omega
      · have hlt2 : ¬ (l.length : Int) < (n : Int) := by omega
        have e : l.length = n := by omega
        go_wp2_with fail
        refine bodyPost_ret (v := .tuple #[]) (by simp [results, Try.results61, go_sem]) rfl ?_
        have hg := HG.out
        rw [HP2.out, HN.out] at hg
        have hs : readS s1 l.length = rS3 s := by unfold rS3; rw [e, HN.out, HS.out]
        have hl : l.map En.ed = rE3 s := by unfold rE3; rw [HLE.out.1, e, HN.out, HS.out]
        have hr := HRr.out
        rw [hs] at hr
        have hb0 := HEr.out
        rw [show n - l.length = 0 by omega] at hb0
        have lwr := HMr.out.size
        refine ⟨some ⟨ge, 0, none⟩, l, ⟨rfl, hr, HM.out.trans (HMr.out.mono (T := fun i => T i ∨ i = ge) (fun i hi => hi)) (fun i hi => hi.elim (fun h => .inl (.inl h)) (fun h => .inr (by have := HGE.out; omega))), hg⟩, hl, fun i hi => hi.2, e.trans HN.out, by show rN3 s ≤ _; rw [← HN.out]; omega, ?_, fun x hx => ⟨(HLE.out.2 x hx).1.mono (fun i hi => ⟨by omega, hi.2⟩), (HLE.out.2 x hx).2⟩, rfl, (show 0 ≤ 140737488351232 by omega), Rd.nil _ _ _⟩
        show Rd wr _ 4 (.slice (some ⟨ge, 0, none⟩) (rN3 s) (rN3 s)) (rN3 s) (rowE l)
        rw [← HN.out, ← e]
        refine ⟨by rw [rowE_length], _, l.length, rfl, Nat.le_refl _, by simp only [maxLen]; omega, fun _ => ⟨ge, 0, rfl, ⟨by have := HGE.out; omega, hb0.lt⟩, fun j u hu => ?_⟩⟩
        rw [Nat.zero_add, hb0.cell]
        simp only [rowZ, List.replicate_zero, List.append_nil, List.getElem?_toArray]
        exact hu
end Go.Proofs.Ytnphnaggamfoiaa
