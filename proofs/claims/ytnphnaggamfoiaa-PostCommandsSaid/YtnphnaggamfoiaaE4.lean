/- The coder that reads, behind the interface: head, longs. -/
import Derived.Test.YtnphnaggamfoiaaE3
import Derived.Test.YtnphnaggamfoiaaD2
namespace Go.Proofs.Ytnphnaggamfoiaa
open Go.RowKit
set_option maxRecDepth 20000
set_option linter.unusedVariables false
set_option linter.unusedSimpArgs false

abbrev ri (rb : Nat) : Value := .iface 72 (.pointer (some ⟨rb, 0, none⟩))
theorem nil_rnumber (p : Nat) (w : World) : (nilAhead 246 72 (.pointer (some ⟨p, 0, none⟩)) "causeway/post.number").run Try.prog w = .ok (some false) w := by kernel_rfl
theorem nil_rflag (p : Nat) (w : World) : (nilAhead 246 72 (.pointer (some ⟨p, 0, none⟩)) "causeway/post.flag").run Try.prog w = .ok (some false) w := by kernel_rfl
theorem nil_roctets (p : Nat) (w : World) : (nilAhead 246 72 (.pointer (some ⟨p, 0, none⟩)) "causeway/post.octets").run Try.prog w = .ok (some false) w := by kernel_rfl
theorem nil_rmany (p : Nat) (w : World) : (nilAhead 246 72 (.pointer (some ⟨p, 0, none⟩)) "causeway/post.many").run Try.prog w = .ok (some false) w := by kernel_rfl

/-- Numbers, one by one, into cells that hold zero. -/
def gets : St → List Nat → Array Value → Array Value
  | _, [], cs => cs
  | s, o :: L, cs => gets (s.nx 7) L (cs.setIfInBounds o (.int .i64 (s.num 7)))
def getsS : St → List Nat → St
  | s, [] => s
  | s, _ :: L => getsS (s.nx 7) L
theorem gets_snoc : ∀ (L : List Nat) (s : St) (o : Nat) (cs : Array Value), gets s (L ++ [o]) cs = (gets s L cs).setIfInBounds o (.int .i64 ((getsS s L).num 7)) ∧ getsS s (L ++ [o]) = (getsS s L).nx 7
  | [], s, o, cs => ⟨rfl, rfl⟩
  | x :: L, s, o, cs => by
    have := gets_snoc L (s.nx 7) o (cs.setIfInBounds x (.int .i64 (s.num 7)))
    exact ⟨this.1, this.2⟩
theorem gets_take (L : List Nat) (k : Nat) (hk : k < L.length) (s : St) (cs : Array Value) : gets s (L.take (k + 1)) cs = (gets s (L.take k) cs).setIfInBounds L[k] (.int .i64 ((getsS s (L.take k)).num 7)) ∧ getsS s (L.take (k + 1)) = (getsS s (L.take k)).nx 7 := by
  rw [List.take_succ_eq_append_getElem hk]
  exact gets_snoc _ _ _ _
/-- A cell that holds a number holds one still. -/
theorem gets_int : ∀ (L : List Nat) (s : St) (cs : Array Value) (o : Nat), (∃ v, cs[o]? = some (.int .i64 v)) → ∃ v, (gets s L cs)[o]? = some (.int .i64 v)
  | [], s, cs, o, h => h
  | x :: L, s, cs, o, h => by
    refine gets_int L (s.nx 7) _ o ?_
    by_cases e : x = o
    · subst e
      obtain ⟨v, hv⟩ := h
      have hi := (Array.getElem?_eq_some_iff.1 hv).1
      exact ⟨s.num 7, by rw [Array.getElem?_setIfInBounds_self, if_pos hi]⟩
    · rw [Array.getElem?_setIfInBounds_ne e]; exact h
/-- A cell that is not written stays. -/
theorem gets_ne : ∀ (L : List Nat) (s : St) (cs : Array Value) (o : Nat), o ∉ L → (gets s L cs)[o]? = cs[o]?
  | [], s, cs, o, h => rfl
  | x :: L, s, cs, o, h => by
    rw [List.mem_cons, not_or] at h
    show (gets (s.nx 7) L (cs.setIfInBounds x _))[o]? = _
    rw [gets_ne L _ _ o h.2, Array.getElem?_setIfInBounds_ne (fun e => h.1 e.symm)]
def ptrsN (g : Nat) (L : List Nat) : List Value := L.map fun o => .pointer (some ⟨g, o, none⟩)
theorem mod_step {T : Nat → Prop} {g : Nat} {a b c d : World} (h : Mod (fun i => T i ∨ i = g) a b) (hb : Below b.heap.size b c) (hm : Mod (fun i => T i ∨ i = g) c d) : Mod (fun i => T i ∨ i = g) a d :=
  h.trans ((Mod.of_below (S := fun i => T i ∨ i = g) hb).trans hm (fun i hi => .inl hi)) (fun i hi => .inl hi)

theorem below_pre' {a b c : World} {T : Nat → Prop} (hm : Mod T b c) (hb : Below a.heap.size a b) : Below a.heap.size a b := hb
set_option maxHeartbeats 1000000 in
theorem rlongs_any (T : Nat → Prop) (rb g gl : Nat) (t tl : TypeId) (cs : Array Value) (s : St) (L : List Nat) (hN : L.Nodup) (hL : ∀ o ∈ L, cs[o]? = some (.int .i64 0)) (hn : L.length ≤ 100) (w : World) (h : RrAt w T rb s) (hb : Blk w g t cs) (hg : ¬ T g) (hbl : Blk w gl tl (ptrsN g L).toArray) (hgl : ¬ T gl) (hne : gl ≠ g) :
    Calls Try.prog 76 #[ri rb, .slice (some ⟨gl, 0, none⟩) L.length L.length] w (RrDid T rb g t (gets s L cs) (getsS s L) w) := by
  have H := Lib.hid h
  have HC := Lib.hid (And.intro hb hg)
  have HD := Lib.hid (And.intro hbl (And.intro hgl hne))
  have HL := Lib.hid (And.intro hL hN)
  have hmf := mkfn
  have hna := nil_rnumber rb
  have lg := hb.lt
  have lgl := hbl.lt
  clear h hb hbl hL hg hgl hne hN
  go_enter Try.func76, Try.ntmps76
  go_wp2_with fail
  go_loopw [8] (fun i wr => ∃ k : Nat, k ≤ L.length ∧ i = .int .i64 k ∧ RrAt wr T rb (getsS s (L.take k)) ∧ Mod (fun i => T i ∨ i = g) w wr ∧ Blk wr g t (gets s (L.take k) cs)) (fun i _ => L.length - (intOf i).toNat)
  case atStart => exact ⟨0, Nat.zero_le _, rfl, H.out, Mod.refl _ _, HC.out.1⟩
  case round =>
    obtain ⟨k, hk, rfl, hw, hm, hbk⟩ := hrel
    have HW := Lib.hid hw
    have HM := Lib.hid hm
    have HB := Lib.hid hbk
    have lw := hm.size
    clear hw hm hbk
    by_cases hlt : k < L.length
    · have hlt2 : (k : Int) < (L.length : Int) := by omega
      have BL := Lib.hid (HD.out.1.kept HM.out (fun h => h.elim HD.out.2.1 HD.out.2.2))
      have q0 : wr.cell? ⟨gl, k, none⟩ = some (.pointer (some ⟨g, L[k], none⟩)) := (BL.out.cell k).trans (by simp [ptrsN, hlt])
      have hnk : L[k] ∉ L.take k := fun hm => by
        obtain ⟨j, hj, he⟩ := List.getElem_of_mem hm
        simp at hj he
        exact (List.pairwise_iff_getElem.1 HL.out.2 j k (by omega) hlt (by omega)) he
      have HX := Lib.hid (show (gets s (L.take k) cs)[L[k]]? = some (.int .i64 0) by rw [gets_ne _ _ _ _ hnk]; exact HL.out.1 L[k] (List.getElem_mem hlt))
      obtain ⟨o, ho⟩ : ∃ o, o = L[k] := ⟨_, rfl⟩
      have HO := Lib.hid ho
      rw [← ho] at q0 HX
      clear ho hnk
      go_wp2_with fail
      refine (rnum_any T rb g o 7 t _ 0 (getsS s (L.take k)) _ HW.out HB.out HC.out.2 HX.out).mono ?_
      rw [num0]
      rintro e w1 ⟨rfl, hr, hm, hk1⟩
      have HW1 := Lib.hid hr
      have HM1 := Lib.hid (HM.out.trans hm (fun i hi => .inl hi))
      have HB1 := Lib.hid hk1
      clear hr hm hk1
      go_wp2_with fail
      go_roundw
      case rel =>
        have ht := gets_take L k hlt s cs
        exact ⟨k + 1, by omega, by go_num, by rw [ht.2]; exact HW1.out, HM1.out, by rw [ht.1, ← HO.out]; exact HB1.out⟩
      case measure => simp [intOf]; omega
    · have hlt2 : ¬ (k : Int) < (L.length : Int) := by omega
      have e : k = L.length := by omega
      subst e
      go_wp2_with fail
      refine bodyPost_ret (v := .tuple #[]) (by simp [results, Try.results76, go_sem]) rfl ?_
      have hw := HW.out
      have hbk := HB.out
      rw [List.take_length] at hw hbk
      exact ⟨rfl, hw, HM.out, hbk⟩

theorem rhead_any (T : Nat → Prop) (rb g : Nat) (P : Po) (s : St) (w : World) (h : RrAt w T rb s) (hb : Blk w g 27 P.cs) (hg : ¬ T g) (hz : P.fr = 0 ∧ P.to = 0 ∧ P.te = 0) :
    Calls Try.prog 60 #[ri rb, .pointer (some ⟨g, 0, none⟩)] w (RrDid T rb g 27 ({ P with fr := s.num 1, to := (s.nx 1).num 1, te := ((s.nx 1).nx 1).num 7 } : Po).cs (((s.nx 1).nx 1).nx 7) w) := by
  have H := Lib.hid h
  have HC := Lib.hid (And.intro hb hg)
  have HZ := Lib.hid hz
  have hmf := mkfn
  have hna := nil_rnumber rb
  have lg := hb.lt
  clear h hb hg hz
  go_enter Try.func60, Try.ntmps60
  go_wp2_with fail
  go_region_held3 (fun _ => True) (exact trivial)
    (first | (go_at_call 48; refine (rnum_any T rb g 1 1 27 P.cs P.fr (s) _ (H.out.below (by repeat (first | exact B0 _ | apply Bs | apply Bd | apply BdN | apply Ba))) (HC.out.1.later (by repeat (first | exact B0 _ | apply Bs | apply Bd | apply BdN | apply Ba))) HC.out.2 rfl).mono ?_; rw [HZ.out.1, num0]; rintro e w1 ⟨rfl, hr, hm, hk⟩))
  have hbx : Below w.heap.size w _ := below_pre' hm (by repeat (first | exact B0 _ | apply Bs | apply Bd | apply BdN | apply Ba))
  have HM := Lib.hid ((Mod.of_below (S := fun i => T i ∨ i = g) hbx).trans hm (fun i hi => .inl hi))
  replace H := Lib.hid (show RrAt w1 T rb ((s).nx 1) from hr)
  replace HC := Lib.hid (And.intro (show Blk w1 g 27 ({ P with fr := (s).num 1 } : Po).cs from hk) HC.out.2)
  clear hr hm hk hbx
  go_wp2_with fail
  go_region_held3 (fun _ => True) (exact trivial)
    (first | (go_at_call 48; refine (rnum_any T rb g 2 1 27 ({ P with fr := (s).num 1 } : Po).cs P.to ((s).nx 1) _ (H.out.below (by repeat (first | exact B0 _ | apply Bs | apply Bd | apply BdN | apply Ba))) (HC.out.1.later (by repeat (first | exact B0 _ | apply Bs | apply Bd | apply BdN | apply Ba))) HC.out.2 rfl).mono ?_; rw [HZ.out.2.1, num0]; rintro e w2 ⟨rfl, hr, hm, hk⟩))
  have hbx : Below w1.heap.size w1 _ := below_pre' hm (by repeat (first | exact B0 _ | apply Bs | apply Bd | apply BdN | apply Ba))
  replace HM := Lib.hid (mod_step HM.out hbx hm)
  replace H := Lib.hid (show RrAt w2 T rb (((s).nx 1).nx 1) from hr)
  replace HC := Lib.hid (And.intro (show Blk w2 g 27 ({ ({ P with fr := (s).num 1 } : Po) with to := ((s).nx 1).num 1 } : Po).cs from hk) HC.out.2)
  clear hr hm hk hbx
  go_wp2_with fail
  go_region_held3 (fun _ => True) (exact trivial)
    (first | (go_at_call 48; refine (rnum_any T rb g 3 7 27 ({ ({ P with fr := (s).num 1 } : Po) with to := ((s).nx 1).num 1 } : Po).cs P.te (((s).nx 1).nx 1) _ (H.out.below (by repeat (first | exact B0 _ | apply Bs | apply Bd | apply BdN | apply Ba))) (HC.out.1.later (by repeat (first | exact B0 _ | apply Bs | apply Bd | apply BdN | apply Ba))) HC.out.2 rfl).mono ?_; rw [HZ.out.2.2, num0]; rintro e w3 ⟨rfl, hr, hm, hk⟩))
  have hbx : Below w2.heap.size w2 _ := below_pre' hm (by repeat (first | exact B0 _ | apply Bs | apply Bd | apply BdN | apply Ba))
  replace HM := Lib.hid (mod_step HM.out hbx hm)
  replace H := Lib.hid (show RrAt w3 T rb ((((s).nx 1).nx 1).nx 7) from hr)
  replace HC := Lib.hid (And.intro (show Blk w3 g 27 ({ ({ ({ P with fr := (s).num 1 } : Po) with to := ((s).nx 1).num 1 } : Po) with te := (((s).nx 1).nx 1).num 7 } : Po).cs from hk) HC.out.2)
  clear hr hm hk hbx
  refine bodyPost_ret (v := .tuple #[]) (by simp [results, Try.results60, go_sem]) rfl ?_
  exact ⟨rfl, H.out, HM.out, HC.out.1⟩
end Go.Proofs.Ytnphnaggamfoiaa
