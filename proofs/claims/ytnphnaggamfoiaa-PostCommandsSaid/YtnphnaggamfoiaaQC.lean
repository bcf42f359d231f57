/- K7, K8, K9 in one text. -/
import Derived.Test.YtnphnaggamfoiaaQB
import Derived.Test.YtnphnaggamfoiaaE4
import Derived.Laws.CopyOwn
import Derived.Deep.RegionHeld3
import Derived.Test.YtnphnaggamfoiaaE9
namespace Go.Proofs.Ytnphnaggamfoiaa
open Go.RowKit
set_option maxRecDepth 20000
set_option linter.unusedVariables false
set_option linter.unusedSimpArgs false
section
theorem wpList_copy_mod {P : Program} {w : World} {ops : Array Oper} {rest : List Oper} {o : Oper} {a : Act} {Q : Exit → Act → World → Prop} (hgd : o.guard = none) (d s : Operand) (dT sT : TypeId)
    (ho : o.op = .call { callee := .builtin .copy, args := #[d, s], argTypes := #[dT, sT] }) (elem : TypeId) (hu : P.underlying dT = some (.slice elem)) (hsz : (P.info? elem).map (·.size) = some 1)
    (g off dLen dCap : Nat) (A : Option Addr) (n c : Nat) (hd : a.eval d = .slice (some ⟨g, off, none⟩) dLen dCap) (hs : a.eval s = .slice A n c)
    (cur : List Value) (t : TypeId) (hg : Blk w g t cur.toArray) (S : Nat → Prop) (cs : List Value) (hr : Rd w S 1 (.slice A n c) n cs) (hn : n ≤ dLen) (hfit : off + n ≤ cur.length) (h1 : ∀ v ∈ cs, v.oneCell' = true)
    (h : ∀ w', Blk w' g t (splice cur off cs).toArray → Mod (fun j => j = g) w w' → wpList P ops Q rest (a.put o.dst (goInt n)) w') : wpList P ops Q (o :: rest) a w := by
  have hl : cs.length = n := by simpa using hr.1
  rcases Nat.eq_zero_or_pos n with h0 | h0
  · subst h0
    obtain rfl : cs = [] := List.eq_nil_of_length_eq_zero hl
    refine wpList_copy_nothing hgd d s dT sT ho elem hu hsz _ _ dLen dCap 0 c hd hs (by simp) ?_
    exact h w (by simpa [splice] using hg) (Mod.refl _ _)
  · obtain ⟨gs, os, rfl, _, hc⟩ := hr.some_ h0
    refine wpList_copy_own hgd d s dT sT ho elem hu hsz g off dLen dCap ⟨gs, os, none⟩ n c hd hs cur.toArray t hg cs (by rw [hl]; exact (Nat.min_eq_left hn).symm) (fun j v hj => by rw [addr_add]; exact hc j v hj) (by simp; omega) h1 ?_
    rw [hl]
    refine h _ ?_ ((Mod.refl (fun j => j = g) w).setRow (.inl rfl) _)
    have e : splice cur off cs = cur.toArray.toList.take off ++ (cs ++ cur.toArray.toList.drop (off + n)) := by unfold splice; rw [hl]
    rw [e]
    exact hg.setRow _
/-- The key that is read: none if there were too few bytes. -/
def keyZ (l : List Int) : List Int := if l = [] then z32 else l
theorem some_len (s : St) : (s.some 32).length = 32 ∨ s.some 32 = [] := by
  unfold St.some
  split
  · unfold Wr.bytV
    split
    · rename_i h
      left
      unfold Wr.bytE at h
      rw [if_neg (by omega)] at h
      split at h
      · omega
      · simp; omega
    · exact .inr rfl
  · exact .inr rfl
theorem keyZ_len (s : St) : (keyZ (s.some 32)).length = 32 := by
  unfold keyZ
  split
  · exact z32_len
  · rename_i h
    exact (some_len s).resolve_right h
theorem splice_key (s q kd nd ex : Int) (l : List Int) (hl : l.length = 32 ∨ l = []) (tx : ByteArray) (ti : Int) :
    splice (⟨s, q, ⟨kd, nd, z32, ex, tx, ti⟩⟩ : Co).L 4 (bts l) = (⟨s, q, ⟨kd, nd, keyZ l, ex, tx, ti⟩⟩ : Co).L := by
  unfold splice keyZ
  rcases hl with h | h
  · have hne : l ≠ [] := by intro h0; rw [h0] at h; simp at h
    rw [if_neg hne, bts_length, h]
    have e1 : (⟨s, q, ⟨kd, nd, z32, ex, tx, ti⟩⟩ : Co).L.take 4 = [.int .i64 s, .int .i64 q, .int .i64 kd, .int .i64 nd] := rfl
    have e2 : (⟨s, q, ⟨kd, nd, z32, ex, tx, ti⟩⟩ : Co).L.drop (4 + 32) = [.int .i64 ex, .string tx, .int .i64 ti] := rfl
    rw [e1, e2]
    rfl
  · subst h
    rw [if_pos rfl]
    simp [bts]
theorem set_nd (s q kd nd ex : Int) (ks : List Int) (tx : ByteArray) (ti v : Int) : (⟨s, q, ⟨kd, nd, ks, ex, tx, ti⟩⟩ : Co).L.toArray.setIfInBounds 3 (.int .i64 v) = (⟨s, q, ⟨kd, v, ks, ex, tx, ti⟩⟩ : Co).L.toArray := rfl
theorem set_kd (s q kd nd ex : Int) (ks : List Int) (tx : ByteArray) (ti v : Int) : (⟨s, q, ⟨kd, nd, ks, ex, tx, ti⟩⟩ : Co).L.toArray.setIfInBounds 2 (.int .i64 v) = (⟨s, q, ⟨v, nd, ks, ex, tx, ti⟩⟩ : Co).L.toArray := rfl
theorem set_q (s q kd nd ex : Int) (ks : List Int) (tx : ByteArray) (ti v : Int) : (⟨s, q, ⟨kd, nd, ks, ex, tx, ti⟩⟩ : Co).L.toArray.setIfInBounds 1 (.int .i64 v) = (⟨s, v, ⟨kd, nd, ks, ex, tx, ti⟩⟩ : Co).L.toArray := rfl
theorem set_s (s q kd nd ex : Int) (ks : List Int) (tx : ByteArray) (ti v : Int) : (⟨s, q, ⟨kd, nd, ks, ex, tx, ti⟩⟩ : Co).L.toArray.setIfInBounds 0 (.int .i64 v) = (⟨v, q, ⟨kd, nd, ks, ex, tx, ti⟩⟩ : Co).L.toArray := rfl
theorem set_tail (s q kd nd ex : Int) (ks : List Int) (h : ks.length = 32) (tx : ByteArray) (ti : Int) (j : Nat) (v : Value) : (⟨s, q, ⟨kd, nd, ks, ex, tx, ti⟩⟩ : Co).L.toArray.setIfInBounds (36 + j) v = (.int .i64 s :: .int .i64 q :: .int .i64 kd :: .int .i64 nd :: (bts ks ++ [Value.int .i64 ex, .string tx, .int .i64 ti].set j v)).toArray := by
  have hl : (bts ks).length = 32 := by simp [bts, h]
  simp only [Co.L, Ox.L, List.setIfInBounds_toArray]
  rw [show 36 + j = (32 + j) + 1 + 1 + 1 + 1 by omega, List.set_cons_succ, List.set_cons_succ, List.set_cons_succ, List.set_cons_succ, List.set_append_right _ _ (by omega), hl, Nat.add_sub_cancel_left]
theorem set_ex (s q kd nd ex : Int) (ks : List Int) (h : ks.length = 32) (tx : ByteArray) (ti v : Int) : (⟨s, q, ⟨kd, nd, ks, ex, tx, ti⟩⟩ : Co).L.toArray.setIfInBounds 36 (.int .i64 v) = (⟨s, q, ⟨kd, nd, ks, v, tx, ti⟩⟩ : Co).L.toArray := set_tail s q kd nd ex ks h tx ti 0 _
theorem set_tx (s q kd nd ex : Int) (ks : List Int) (h : ks.length = 32) (tx v : ByteArray) (ti : Int) : (⟨s, q, ⟨kd, nd, ks, ex, tx, ti⟩⟩ : Co).L.toArray.setIfInBounds 37 (.string v) = (⟨s, q, ⟨kd, nd, ks, ex, v, ti⟩⟩ : Co).L.toArray := set_tail s q kd nd ex ks h tx ti 1 _
theorem set_ti (s q kd nd ex : Int) (ks : List Int) (h : ks.length = 32) (tx : ByteArray) (ti v : Int) : (⟨s, q, ⟨kd, nd, ks, ex, tx, ti⟩⟩ : Co).L.toArray.setIfInBounds 38 (.int .i64 v) = (⟨s, q, ⟨kd, nd, ks, ex, tx, v⟩⟩ : Co).L.toArray := set_tail s q kd nd ex ks h tx ti 2 _
theorem nil_rfixed (p : Nat) (w : World) : (nilAhead 246 72 (.pointer (some ⟨p, 0, none⟩)) "causeway/post.fixed").run Try.prog w = .ok (some false) w := by kernel_rfl
set_option maxHeartbeats 1000000 in
theorem rfixed_any (T : Nat → Prop) (rb g : Nat) (cs cq kd nd : Int) (tx : ByteArray) (s : St) (w : World) (h : RrAt w T rb s) (hb : Blk w g 36 (⟨cs, cq, ⟨kd, nd, z32, 0, tx, 0⟩⟩ : Co).L.toArray) (hg : ¬ T g) :
    Calls Try.prog 107 #[.pointer (some ⟨rb, 0, none⟩), .slice (some ⟨g, 4, none⟩) 32 32] w (RrDid T rb g 36 (⟨cs, cq, ⟨kd, nd, keyZ (s.some 32), 0, tx, 0⟩⟩ : Co).L.toArray (s.sk 32) w) := by
  have H := Lib.hid h
  have HC := Lib.hid (And.intro hb hg)
  clear h hb hg
  go_enter Try.func107, Try.ntmps107
  go_wp2_with fail
  refine (rsome_any T rb 32 s w H.out).mono ?_
  rintro e w1 ⟨A, c, rfl, ho, hr, hm⟩
  have hC1 := HC.out.1.kept hm HC.out.2
  have hle : (s.some 32).length ≤ 32 := by rcases some_len s with h | h; omega; rw [h]; simp
  have hcl : (⟨cs, cq, ⟨kd, nd, z32, 0, tx, 0⟩⟩ : Co).L.length = 39 := Co.len (c := ⟨cs, cq, ⟨kd, nd, z32, 0, tx, 0⟩⟩) z32_len
  obtain ⟨l, hl⟩ : ∃ l, l = s.some 32 := ⟨_, rfl⟩
  have HLL := Lib.hid hl
  rw [← hl] at ho hle ⊢
  have HO := Lib.hid (Rd.of_own ho)
  have HR := Lib.hid hr
  have HM := Lib.hid hm
  have HC1 := Lib.hid hC1
  have hcell : (Try.prog.info? 5).map (·.size) = some 1 := by kernel_rfl
  clear hl ho hr hm hC1
  go_wp2_with ((refine wpList_copy_mod rfl (.tmp 4) (.tmp 8) 23 23 rfl 5 Try.underlying23 hcell g 4 32 32 A l.length c rfl rfl _ 36 HC1.out _ (bts l) HO.out hle (by rw [hcl]; omega) (bts_one l) ?_); intro w2 hb2 hm2)
  have HB2 := Lib.hid hb2
  have HM2 := Lib.hid hm2
  clear hb2 hm2
  go_wp2_with fail
  refine bodyPost_ret (v := .tuple #[]) (by simp [results, Try.results107, go_sem]) rfl ?_
  have hll := some_len s
  rw [← HLL.out] at hll
  refine ⟨rfl, HR.out.kept HM2.out (fun i hi h => HC.out.2 (h ▸ hi)), (HM.out.mono (fun i hi => .inl hi)).trans HM2.out (fun i hi => .inl (.inr hi)), ?_⟩
  rw [← HLL.out, ← splice_key _ _ _ _ _ l hll]
  exact HB2.out
end

section
def rop (kd : Int) (s : St) : Ox :=
  if kd = 1 ∨ kd = 2 then ⟨kd, s.num 1, keyZ ((s.nx 1).some 32), ((s.nx 1).sk 32).num 7, ByteArray.empty, 0⟩ else if kd = 3 then ⟨kd, s.num 1, z32, 0, ByteArray.empty, 0⟩ else if kd = 4 then ⟨kd, 0, z32, 0, bs s.oct, 0⟩ else if kd = 5 then ⟨kd, 0, z32, 0, ByteArray.empty, s.num 7⟩ else Ox.zero kd
theorem rfixed_tx (T : Nat → Prop) (rb g : Nat) (cs cq kd nd : Int) (tx : ByteArray) (s : St) (w : World) (h : RrAt w T rb s) (hb : Blk w g 36 (⟨cs, cq, ⟨kd, nd, z32, 0, tx, 0⟩⟩ : Co).L.toArray) (hg : ¬ T g) :
    Calls Try.prog 107 #[.pointer (some ⟨rb, 0, none⟩), .slice (some ⟨g, 4, none⟩) 32 32] w (RrDid T rb g 36 (⟨cs, cq, ⟨kd, nd, keyZ (s.some 32), 0, tx, 0⟩⟩ : Co).L.toArray (s.sk 32) w) := rfixed_any T rb g cs cq kd nd tx s w h hb hg
def ropS (kd : Int) (s : St) : St := if kd = 1 ∨ kd = 2 then ((s.nx 1).sk 32).nx 7 else if kd = 3 then s.nx 1 else if kd = 4 then s.ox else if kd = 5 then s.nx 7 else s

set_option maxHeartbeats 2000000 in
theorem rop3_any (T : Nat → Prop) (rb g : Nat) (cs cq : Int) (tx : ByteArray) (s : St) (w : World) (h : RrAt w T rb s) (hb : Blk w g 36 (⟨cs, cq, ⟨3, 0, z32, 0, tx, 0⟩⟩ : Co).L.toArray) (hg : ¬ T g) :
    Calls Try.prog 45 #[ri rb, .pointer (some ⟨g, 2, none⟩)] w (RrDid T rb g 36 (⟨cs, cq, ⟨3, s.num 1, z32, 0, tx, 0⟩⟩ : Co).L.toArray (s.nx 1) w) := by
  have x2 : w.cell? ⟨g, 2, none⟩ = some (.int .i64 3) := hb.cell 2
  have x37 : w.cell? ⟨g, 37, none⟩ = some (.string tx) := (hb.cell 37).trans (Co.at37 (c := ⟨cs, cq, ⟨3, 0, z32, 0, tx, 0⟩⟩) z32_len)
  have hcv := Lib.run_convert_string_bytes (P := Try.prog) w 9 23 5 tx Try.underlying9 Try.underlying23 Try.underlying5
  have hbw := bytes_below w tx
  have y2 : (Lib.bytesWorld w 5 tx).cell? ⟨g, 2, none⟩ = some (.int .i64 3) := (hbw.cell (p := ⟨g, 2, none⟩) hb.lt).trans x2
  have lg := hb.lt
  have lg2 : g < (Lib.bytesWorld w 5 tx).heap.size := Nat.lt_of_lt_of_le hb.lt hbw.size
  obtain ⟨g5, hg5⟩ : ∃ g5, g5 = (Lib.bytesWorld w 5 tx).heap.size := ⟨_, rfl⟩
  obtain ⟨cap, hcap⟩ : ∃ cap, cap = grownCap w tx.size 0 5 := ⟨_, rfl⟩
  obtain ⟨wa, hwa⟩ : ∃ u, u = (Lib.bytesWorld w 5 tx).alloc (.cells #[.slice (some ⟨w.heap.size, 0, none⟩) tx.size cap] 23) := ⟨_, rfl⟩
  have hba : Below w.heap.size w wa := by rw [hwa]; exact hbw.alloc hbw.size _
  have HWA := Lib.hid hwa
  have HG5 := Lib.hid hg5
  have H := Lib.hid (h.below hba)
  have HC := Lib.hid (And.intro (hb.later hba) hg)
  have HM := Lib.hid (show Mod (fun i => T i ∨ i = g) w wa from Mod.of_below hba)
  have HX := Lib.hid (show Blk wa g5 23 #[.slice (some ⟨w.heap.size, 0, none⟩) tx.size cap] by rw [hwa, hg5]; exact Blk.new _ _ _)
  have HN5 := Lib.hid (show ¬ T g5 ∧ g5 ≠ g from ⟨fun h' => by have := h.2.1 _ h'; have := hbw.size; omega, by omega⟩)
  have hmf := mkfn
  have hna1 := nil_rnumber rb
  have hna3 := nil_roctets rb
  have hna4 := nil_rfixed rb
  rw [← hcap] at hcv
  clear h hb hg hbw hwa hba hg5 hcap
  go_enter Try.func45, Try.ntmps45
  go_wp2_with fail
  rw [← HWA.out]
  clear x2 x37 hcv y2 lg lg2
  go_region_held3 (fun _ => True) (exact trivial)
    (first | (go_at_call 48; refine (rnum_any T rb g 3 1 36 _ 0 (s) _ (H.out.below (by repeat (first | exact B0 _ | apply Bs | apply Bd | apply BdN | apply Ba))) (HC.out.1.later (by repeat (first | exact B0 _ | apply Bs | apply Bd | apply BdN | apply Ba))) HC.out.2 rfl).mono ?_; rintro e w1 ⟨rfl, hr, hm, hk⟩))
  have hbx : Below wa.heap.size wa _ := below_pre' hm (by repeat (first | exact B0 _ | apply Bs | apply Bd | apply BdN | apply Ba))
  replace HM := Lib.hid (mod_step HM.out hbx hm)
  replace H := Lib.hid (show RrAt w1 T rb ((s).nx 1) from hr)
  rw [num0, set_nd] at hk
  replace HC := Lib.hid (And.intro (show Blk w1 g 36 (⟨cs, cq, ⟨3, s.num 1, z32, 0, tx, 0⟩⟩ : Co).L.toArray from hk) HC.out.2)
  clear hr hm hk hbx
  go_wp2_with fail
  refine bodyPost_ret (v := .tuple #[]) (by simp [results, Try.results45, go_sem]) rfl ?_
  exact ⟨rfl, H.out, HM.out, HC.out.1⟩

set_option maxHeartbeats 2000000 in
theorem rop5_any (T : Nat → Prop) (rb g : Nat) (cs cq : Int) (tx : ByteArray) (s : St) (w : World) (h : RrAt w T rb s) (hb : Blk w g 36 (⟨cs, cq, ⟨5, 0, z32, 0, tx, 0⟩⟩ : Co).L.toArray) (hg : ¬ T g) :
    Calls Try.prog 45 #[ri rb, .pointer (some ⟨g, 2, none⟩)] w (RrDid T rb g 36 (⟨cs, cq, ⟨5, 0, z32, 0, tx, s.num 7⟩⟩ : Co).L.toArray (s.nx 7) w) := by
  have x2 : w.cell? ⟨g, 2, none⟩ = some (.int .i64 5) := hb.cell 2
  have x37 : w.cell? ⟨g, 37, none⟩ = some (.string tx) := (hb.cell 37).trans (Co.at37 (c := ⟨cs, cq, ⟨5, 0, z32, 0, tx, 0⟩⟩) z32_len)
  have hcv := Lib.run_convert_string_bytes (P := Try.prog) w 9 23 5 tx Try.underlying9 Try.underlying23 Try.underlying5
  have hbw := bytes_below w tx
  have y2 : (Lib.bytesWorld w 5 tx).cell? ⟨g, 2, none⟩ = some (.int .i64 5) := (hbw.cell (p := ⟨g, 2, none⟩) hb.lt).trans x2
  have lg := hb.lt
  have lg2 : g < (Lib.bytesWorld w 5 tx).heap.size := Nat.lt_of_lt_of_le hb.lt hbw.size
  obtain ⟨g5, hg5⟩ : ∃ g5, g5 = (Lib.bytesWorld w 5 tx).heap.size := ⟨_, rfl⟩
  obtain ⟨cap, hcap⟩ : ∃ cap, cap = grownCap w tx.size 0 5 := ⟨_, rfl⟩
  obtain ⟨wa, hwa⟩ : ∃ u, u = (Lib.bytesWorld w 5 tx).alloc (.cells #[.slice (some ⟨w.heap.size, 0, none⟩) tx.size cap] 23) := ⟨_, rfl⟩
  have hba : Below w.heap.size w wa := by rw [hwa]; exact hbw.alloc hbw.size _
  have HWA := Lib.hid hwa
  have HG5 := Lib.hid hg5
  have H := Lib.hid (h.below hba)
  have HC := Lib.hid (And.intro (hb.later hba) hg)
  have HM := Lib.hid (show Mod (fun i => T i ∨ i = g) w wa from Mod.of_below hba)
  have HX := Lib.hid (show Blk wa g5 23 #[.slice (some ⟨w.heap.size, 0, none⟩) tx.size cap] by rw [hwa, hg5]; exact Blk.new _ _ _)
  have HN5 := Lib.hid (show ¬ T g5 ∧ g5 ≠ g from ⟨fun h' => by have := h.2.1 _ h'; have := hbw.size; omega, by omega⟩)
  have hmf := mkfn
  have hna1 := nil_rnumber rb
  have hna3 := nil_roctets rb
  have hna4 := nil_rfixed rb
  rw [← hcap] at hcv
  clear h hb hg hbw hwa hba hg5 hcap
  go_enter Try.func45, Try.ntmps45
  go_wp2_with fail
  rw [← HWA.out]
  clear x2 x37 hcv y2 lg lg2
  go_region_held3 (fun _ => True) (exact trivial)
    (first | (go_at_call 48; refine (rnum_any T rb g 38 7 36 _ 0 (s) _ (H.out.below (by repeat (first | exact B0 _ | apply Bs | apply Bd | apply BdN | apply Ba))) (HC.out.1.later (by repeat (first | exact B0 _ | apply Bs | apply Bd | apply BdN | apply Ba))) HC.out.2 (Co.at38 (c := ⟨cs, cq, ⟨5, 0, z32, 0, tx, 0⟩⟩) z32_len)).mono ?_; rintro e w1 ⟨rfl, hr, hm, hk⟩))
  have hbx : Below wa.heap.size wa _ := below_pre' hm (by repeat (first | exact B0 _ | apply Bs | apply Bd | apply BdN | apply Ba))
  replace HM := Lib.hid (mod_step HM.out hbx hm)
  replace H := Lib.hid (show RrAt w1 T rb ((s).nx 7) from hr)
  rw [num0, set_ti _ _ _ _ _ _ z32_len] at hk
  replace HC := Lib.hid (And.intro (show Blk w1 g 36 (⟨cs, cq, ⟨5, 0, z32, 0, tx, s.num 7⟩⟩ : Co).L.toArray from hk) HC.out.2)
  clear hr hm hk hbx
  go_wp2_with fail
  refine bodyPost_ret (v := .tuple #[]) (by simp [results, Try.results45, go_sem]) rfl ?_
  exact ⟨rfl, H.out, HM.out, HC.out.1⟩

set_option maxHeartbeats 2000000 in
theorem rop1_any (T : Nat → Prop) (rb g : Nat) (cs cq : Int) (tx : ByteArray) (s : St) (w : World) (h : RrAt w T rb s) (hb : Blk w g 36 (⟨cs, cq, ⟨1, 0, z32, 0, tx, 0⟩⟩ : Co).L.toArray) (hg : ¬ T g) :
    Calls Try.prog 45 #[ri rb, .pointer (some ⟨g, 2, none⟩)] w (RrDid T rb g 36 (⟨cs, cq, ⟨1, s.num 1, keyZ ((s.nx 1).some 32), ((s.nx 1).sk 32).num 7, tx, 0⟩⟩ : Co).L.toArray (((s.nx 1).sk 32).nx 7) w) := by
  have x2 : w.cell? ⟨g, 2, none⟩ = some (.int .i64 1) := hb.cell 2
  have x37 : w.cell? ⟨g, 37, none⟩ = some (.string tx) := (hb.cell 37).trans (Co.at37 (c := ⟨cs, cq, ⟨1, 0, z32, 0, tx, 0⟩⟩) z32_len)
  have hcv := Lib.run_convert_string_bytes (P := Try.prog) w 9 23 5 tx Try.underlying9 Try.underlying23 Try.underlying5
  have hbw := bytes_below w tx
  have y2 : (Lib.bytesWorld w 5 tx).cell? ⟨g, 2, none⟩ = some (.int .i64 1) := (hbw.cell (p := ⟨g, 2, none⟩) hb.lt).trans x2
  have lg := hb.lt
  have lg2 : g < (Lib.bytesWorld w 5 tx).heap.size := Nat.lt_of_lt_of_le hb.lt hbw.size
  obtain ⟨g5, hg5⟩ : ∃ g5, g5 = (Lib.bytesWorld w 5 tx).heap.size := ⟨_, rfl⟩
  obtain ⟨cap, hcap⟩ : ∃ cap, cap = grownCap w tx.size 0 5 := ⟨_, rfl⟩
  obtain ⟨wa, hwa⟩ : ∃ u, u = (Lib.bytesWorld w 5 tx).alloc (.cells #[.slice (some ⟨w.heap.size, 0, none⟩) tx.size cap] 23) := ⟨_, rfl⟩
  have hba : Below w.heap.size w wa := by rw [hwa]; exact hbw.alloc hbw.size _
  have HWA := Lib.hid hwa
  have HG5 := Lib.hid hg5
  have H := Lib.hid (h.below hba)
  have HC := Lib.hid (And.intro (hb.later hba) hg)
  have HM := Lib.hid (show Mod (fun i => T i ∨ i = g) w wa from Mod.of_below hba)
  have HX := Lib.hid (show Blk wa g5 23 #[.slice (some ⟨w.heap.size, 0, none⟩) tx.size cap] by rw [hwa, hg5]; exact Blk.new _ _ _)
  have HN5 := Lib.hid (show ¬ T g5 ∧ g5 ≠ g from ⟨fun h' => by have := h.2.1 _ h'; have := hbw.size; omega, by omega⟩)
  have hmf := mkfn
  have hna1 := nil_rnumber rb
  have hna3 := nil_roctets rb
  have hna4 := nil_rfixed rb
  rw [← hcap] at hcv
  clear h hb hg hbw hwa hba hg5 hcap
  go_enter Try.func45, Try.ntmps45
  go_wp2_with fail
  rw [← HWA.out]
  clear x2 x37 hcv y2 lg lg2
  go_region_held3 (fun _ => True) (exact trivial)
    (first | (go_at_call 48; refine (rnum_any T rb g 3 1 36 _ 0 (s) _ (H.out.below (by repeat (first | exact B0 _ | apply Bs | apply Bd | apply BdN | apply Ba))) (HC.out.1.later (by repeat (first | exact B0 _ | apply Bs | apply Bd | apply BdN | apply Ba))) HC.out.2 rfl).mono ?_; rintro e w1 ⟨rfl, hr, hm, hk⟩))
  have hbx : Below wa.heap.size wa _ := below_pre' hm (by repeat (first | exact B0 _ | apply Bs | apply Bd | apply BdN | apply Ba))
  replace HM := Lib.hid (mod_step HM.out hbx hm)
  replace H := Lib.hid (show RrAt w1 T rb ((s).nx 1) from hr)
  rw [num0, set_nd] at hk
  replace HC := Lib.hid (And.intro (show Blk w1 g 36 (⟨cs, cq, ⟨1, s.num 1, z32, 0, tx, 0⟩⟩ : Co).L.toArray from hk) HC.out.2)
  clear hr hm hk hbx
  go_wp2_with fail
  go_region_held3 (fun _ => True) (exact trivial)
    (first | (go_at_call 107; refine (rfixed_tx T rb g cs cq 1 (s.num 1) tx (s.nx 1) _ (H.out.below (by repeat (first | exact B0 _ | apply Bs | apply Bd | apply BdN | apply Ba))) (HC.out.1.later (by repeat (first | exact B0 _ | apply Bs | apply Bd | apply BdN | apply Ba))) HC.out.2).mono ?_; rintro e w2 ⟨rfl, hr, hm, hk⟩))
  have hbx : Below w1.heap.size w1 _ := below_pre' hm (by repeat (first | exact B0 _ | apply Bs | apply Bd | apply BdN | apply Ba))
  replace HM := Lib.hid (mod_step HM.out hbx hm)
  replace H := Lib.hid (show RrAt w2 T rb ((s.nx 1).sk 32) from hr)
  replace HC := Lib.hid (And.intro (show Blk w2 g 36 (⟨cs, cq, ⟨1, s.num 1, keyZ ((s.nx 1).some 32), 0, tx, 0⟩⟩ : Co).L.toArray from hk) HC.out.2)
  clear hr hm hk hbx
  go_wp2_with fail
  go_region_held3 (fun _ => True) (exact trivial)
    (first | (go_at_call 48; refine (rnum_any T rb g 36 7 36 _ 0 ((s.nx 1).sk 32) _ (H.out.below (by repeat (first | exact B0 _ | apply Bs | apply Bd | apply BdN | apply Ba))) (HC.out.1.later (by repeat (first | exact B0 _ | apply Bs | apply Bd | apply BdN | apply Ba))) HC.out.2 (Co.at36 (c := ⟨cs, cq, ⟨1, s.num 1, keyZ ((s.nx 1).some 32), 0, tx, 0⟩⟩) (keyZ_len _))).mono ?_; rintro e w3 ⟨rfl, hr, hm, hk⟩))
  have hbx : Below w2.heap.size w2 _ := below_pre' hm (by repeat (first | exact B0 _ | apply Bs | apply Bd | apply BdN | apply Ba))
  replace HM := Lib.hid (mod_step HM.out hbx hm)
  replace H := Lib.hid (show RrAt w3 T rb (((s.nx 1).sk 32).nx 7) from hr)
  rw [num0, set_ex _ _ _ _ _ _ (keyZ_len _)] at hk
  replace HC := Lib.hid (And.intro (show Blk w3 g 36 (⟨cs, cq, ⟨1, s.num 1, keyZ ((s.nx 1).some 32), ((s.nx 1).sk 32).num 7, tx, 0⟩⟩ : Co).L.toArray from hk) HC.out.2)
  clear hr hm hk hbx
  go_wp2_with fail
  refine bodyPost_ret (v := .tuple #[]) (by simp [results, Try.results45, go_sem]) rfl ?_
  exact ⟨rfl, H.out, HM.out, HC.out.1⟩

set_option maxHeartbeats 2000000 in
theorem rop2_any (T : Nat → Prop) (rb g : Nat) (cs cq : Int) (tx : ByteArray) (s : St) (w : World) (h : RrAt w T rb s) (hb : Blk w g 36 (⟨cs, cq, ⟨2, 0, z32, 0, tx, 0⟩⟩ : Co).L.toArray) (hg : ¬ T g) :
    Calls Try.prog 45 #[ri rb, .pointer (some ⟨g, 2, none⟩)] w (RrDid T rb g 36 (⟨cs, cq, ⟨2, s.num 1, keyZ ((s.nx 1).some 32), ((s.nx 1).sk 32).num 7, tx, 0⟩⟩ : Co).L.toArray (((s.nx 1).sk 32).nx 7) w) := by
  have x2 : w.cell? ⟨g, 2, none⟩ = some (.int .i64 2) := hb.cell 2
  have x37 : w.cell? ⟨g, 37, none⟩ = some (.string tx) := (hb.cell 37).trans (Co.at37 (c := ⟨cs, cq, ⟨2, 0, z32, 0, tx, 0⟩⟩) z32_len)
  have hcv := Lib.run_convert_string_bytes (P := Try.prog) w 9 23 5 tx Try.underlying9 Try.underlying23 Try.underlying5
  have hbw := bytes_below w tx
  have y2 : (Lib.bytesWorld w 5 tx).cell? ⟨g, 2, none⟩ = some (.int .i64 2) := (hbw.cell (p := ⟨g, 2, none⟩) hb.lt).trans x2
  have lg := hb.lt
  have lg2 : g < (Lib.bytesWorld w 5 tx).heap.size := Nat.lt_of_lt_of_le hb.lt hbw.size
  obtain ⟨g5, hg5⟩ : ∃ g5, g5 = (Lib.bytesWorld w 5 tx).heap.size := ⟨_, rfl⟩
  obtain ⟨cap, hcap⟩ : ∃ cap, cap = grownCap w tx.size 0 5 := ⟨_, rfl⟩
  obtain ⟨wa, hwa⟩ : ∃ u, u = (Lib.bytesWorld w 5 tx).alloc (.cells #[.slice (some ⟨w.heap.size, 0, none⟩) tx.size cap] 23) := ⟨_, rfl⟩
  have hba : Below w.heap.size w wa := by rw [hwa]; exact hbw.alloc hbw.size _
  have HWA := Lib.hid hwa
  have HG5 := Lib.hid hg5
  have H := Lib.hid (h.below hba)
  have HC := Lib.hid (And.intro (hb.later hba) hg)
  have HM := Lib.hid (show Mod (fun i => T i ∨ i = g) w wa from Mod.of_below hba)
  have HX := Lib.hid (show Blk wa g5 23 #[.slice (some ⟨w.heap.size, 0, none⟩) tx.size cap] by rw [hwa, hg5]; exact Blk.new _ _ _)
  have HN5 := Lib.hid (show ¬ T g5 ∧ g5 ≠ g from ⟨fun h' => by have := h.2.1 _ h'; have := hbw.size; omega, by omega⟩)
  have hmf := mkfn
  have hna1 := nil_rnumber rb
  have hna3 := nil_roctets rb
  have hna4 := nil_rfixed rb
  rw [← hcap] at hcv
  clear h hb hg hbw hwa hba hg5 hcap
  go_enter Try.func45, Try.ntmps45
  go_wp2_with fail
  rw [← HWA.out]
  clear x2 x37 hcv y2 lg lg2
  go_region_held3 (fun _ => True) (exact trivial)
    (first | (go_at_call 48; refine (rnum_any T rb g 3 1 36 _ 0 (s) _ (H.out.below (by repeat (first | exact B0 _ | apply Bs | apply Bd | apply BdN | apply Ba))) (HC.out.1.later (by repeat (first | exact B0 _ | apply Bs | apply Bd | apply BdN | apply Ba))) HC.out.2 rfl).mono ?_; rintro e w1 ⟨rfl, hr, hm, hk⟩))
  have hbx : Below wa.heap.size wa _ := below_pre' hm (by repeat (first | exact B0 _ | apply Bs | apply Bd | apply BdN | apply Ba))
  replace HM := Lib.hid (mod_step HM.out hbx hm)
  replace H := Lib.hid (show RrAt w1 T rb ((s).nx 1) from hr)
  rw [num0, set_nd] at hk
  replace HC := Lib.hid (And.intro (show Blk w1 g 36 (⟨cs, cq, ⟨2, s.num 1, z32, 0, tx, 0⟩⟩ : Co).L.toArray from hk) HC.out.2)
  clear hr hm hk hbx
  go_wp2_with fail
  go_region_held3 (fun _ => True) (exact trivial)
    (first | (go_at_call 107; refine (rfixed_tx T rb g cs cq 2 (s.num 1) tx (s.nx 1) _ (H.out.below (by repeat (first | exact B0 _ | apply Bs | apply Bd | apply BdN | apply Ba))) (HC.out.1.later (by repeat (first | exact B0 _ | apply Bs | apply Bd | apply BdN | apply Ba))) HC.out.2).mono ?_; rintro e w2 ⟨rfl, hr, hm, hk⟩))
  have hbx : Below w1.heap.size w1 _ := below_pre' hm (by repeat (first | exact B0 _ | apply Bs | apply Bd | apply BdN | apply Ba))
  replace HM := Lib.hid (mod_step HM.out hbx hm)
  replace H := Lib.hid (show RrAt w2 T rb ((s.nx 1).sk 32) from hr)
  replace HC := Lib.hid (And.intro (show Blk w2 g 36 (⟨cs, cq, ⟨2, s.num 1, keyZ ((s.nx 1).some 32), 0, tx, 0⟩⟩ : Co).L.toArray from hk) HC.out.2)
  clear hr hm hk hbx
  go_wp2_with fail
  go_region_held3 (fun _ => True) (exact trivial)
    (first | (go_at_call 48; refine (rnum_any T rb g 36 7 36 _ 0 ((s.nx 1).sk 32) _ (H.out.below (by repeat (first | exact B0 _ | apply Bs | apply Bd | apply BdN | apply Ba))) (HC.out.1.later (by repeat (first | exact B0 _ | apply Bs | apply Bd | apply BdN | apply Ba))) HC.out.2 (Co.at36 (c := ⟨cs, cq, ⟨2, s.num 1, keyZ ((s.nx 1).some 32), 0, tx, 0⟩⟩) (keyZ_len _))).mono ?_; rintro e w3 ⟨rfl, hr, hm, hk⟩))
  have hbx : Below w2.heap.size w2 _ := below_pre' hm (by repeat (first | exact B0 _ | apply Bs | apply Bd | apply BdN | apply Ba))
  replace HM := Lib.hid (mod_step HM.out hbx hm)
  replace H := Lib.hid (show RrAt w3 T rb (((s.nx 1).sk 32).nx 7) from hr)
  rw [num0, set_ex _ _ _ _ _ _ (keyZ_len _)] at hk
  replace HC := Lib.hid (And.intro (show Blk w3 g 36 (⟨cs, cq, ⟨2, s.num 1, keyZ ((s.nx 1).some 32), ((s.nx 1).sk 32).num 7, tx, 0⟩⟩ : Co).L.toArray from hk) HC.out.2)
  clear hr hm hk hbx
  go_wp2_with fail
  refine bodyPost_ret (v := .tuple #[]) (by simp [results, Try.results45, go_sem]) rfl ?_
  exact ⟨rfl, H.out, HM.out, HC.out.1⟩

set_option maxHeartbeats 2000000 in
theorem rop4_any (T : Nat → Prop) (rb g : Nat) (cs cq : Int) (tx : ByteArray) (s : St) (w : World) (h : RrAt w T rb s) (hb : Blk w g 36 (⟨cs, cq, ⟨4, 0, z32, 0, tx, 0⟩⟩ : Co).L.toArray) (hg : ¬ T g) :
    Calls Try.prog 45 #[ri rb, .pointer (some ⟨g, 2, none⟩)] w (RrDid T rb g 36 (⟨cs, cq, ⟨4, 0, z32, 0, bs s.oct, 0⟩⟩ : Co).L.toArray (s.ox) w) := by
  have x2 : w.cell? ⟨g, 2, none⟩ = some (.int .i64 4) := hb.cell 2
  have x37 : w.cell? ⟨g, 37, none⟩ = some (.string tx) := (hb.cell 37).trans (Co.at37 (c := ⟨cs, cq, ⟨4, 0, z32, 0, tx, 0⟩⟩) z32_len)
  have hcv := Lib.run_convert_string_bytes (P := Try.prog) w 9 23 5 tx Try.underlying9 Try.underlying23 Try.underlying5
  have hbw := bytes_below w tx
  have y2 : (Lib.bytesWorld w 5 tx).cell? ⟨g, 2, none⟩ = some (.int .i64 4) := (hbw.cell (p := ⟨g, 2, none⟩) hb.lt).trans x2
  have lg := hb.lt
  have lg2 : g < (Lib.bytesWorld w 5 tx).heap.size := Nat.lt_of_lt_of_le hb.lt hbw.size
  obtain ⟨g5, hg5⟩ : ∃ g5, g5 = (Lib.bytesWorld w 5 tx).heap.size := ⟨_, rfl⟩
  obtain ⟨cap, hcap⟩ : ∃ cap, cap = grownCap w tx.size 0 5 := ⟨_, rfl⟩
  obtain ⟨wa, hwa⟩ : ∃ u, u = (Lib.bytesWorld w 5 tx).alloc (.cells #[.slice (some ⟨w.heap.size, 0, none⟩) tx.size cap] 23) := ⟨_, rfl⟩
  have hba : Below w.heap.size w wa := by rw [hwa]; exact hbw.alloc hbw.size _
  have HWA := Lib.hid hwa
  have HG5 := Lib.hid hg5
  have H := Lib.hid (h.below hba)
  have HC := Lib.hid (And.intro (hb.later hba) hg)
  have HM := Lib.hid (show Mod (fun i => T i ∨ i = g) w wa from Mod.of_below hba)
  have HX := Lib.hid (show Blk wa g5 23 #[.slice (some ⟨w.heap.size, 0, none⟩) tx.size cap] by rw [hwa, hg5]; exact Blk.new _ _ _)
  have HN5 := Lib.hid (show ¬ T g5 ∧ g5 ≠ g from ⟨fun h' => by have := h.2.1 _ h'; have := hbw.size; omega, by omega⟩)
  have hmf := mkfn
  have hna1 := nil_rnumber rb
  have hna3 := nil_roctets rb
  have hna4 := nil_rfixed rb
  rw [← hcap] at hcv
  clear h hb hg hbw hwa hba hg5 hcap
  go_enter Try.func45, Try.ntmps45
  go_wp2_with fail
  rw [← HWA.out]
  clear x2 x37 hcv y2 lg lg2
  rw [← HG5.out]
  refine (roct_any T rb g5 0 23 _ (some ⟨w.heap.size, 0, none⟩) tx.size cap 1024 s wa H.out HX.out HN5.out.1 rfl).mono ?_
  rintro e w1 ⟨A, c, ⟨rfl, hr, hm, hk⟩, ho⟩
  replace H := Lib.hid hr
  replace HC := Lib.hid (And.intro (HC.out.1.kept hm (fun h => h.elim HC.out.2 (fun h => HN5.out.2 h.symm))) HC.out.2)
  replace HM := Lib.hid (show Mod (fun i => T i ∨ i = g) w w1 from HM.out.trans hm (fun i hi => hi.elim (fun h => .inl (.inl h)) (fun h => .inr (by rw [h, HG5.out]; exact (bytes_below w tx).size))))
  have hcs := bytes_str (Rd.of_own ho) rfl
  have x5 : w1.cell? ⟨g5, 0, none⟩ = some (.slice A s.oct.length c) := hk.cell 0
  have x37 : w1.cell? ⟨g, 37, none⟩ = some (.string tx) := (HC.out.1.cell 37).trans (Co.at37 (c := ⟨cs, cq, ⟨4, 0, z32, 0, tx, 0⟩⟩) z32_len)
  have f37 := HC.out.1.frozen 37
  obtain ⟨st, hst⟩ : ∃ st, st = bs s.oct := ⟨_, rfl⟩
  rw [← hst] at hcs
  have HST := Lib.hid hst
  clear hr hm hk ho hst
  go_wp2_with fail
  obtain ⟨w2, hw2⟩ : ∃ u, u = w1.setCell ⟨g, 37, none⟩ (.string st) := ⟨_, rfl⟩
  have hm2 : Mod (fun j => j = g) w1 w2 := by rw [hw2]; exact (Mod.refl (fun j => j = g) w1).setCell (p := ⟨g, 37, none⟩) (.inl rfl) _
  have hb2 : Blk w2 g 36 (⟨cs, cq, ⟨4, 0, z32, 0, st, 0⟩⟩ : Co).L.toArray := by rw [hw2, ← set_tx _ _ _ _ _ _ z32_len tx st]; exact HC.out.1.set_ 37 _
  rw [← hw2]
  replace H := Lib.hid (H.out.kept hm2 (fun i hi h => HC.out.2 (h ▸ hi)))
  replace HM := Lib.hid (HM.out.trans hm2 (fun i hi => .inl (.inr hi)))
  rw [HST.out] at hb2
  replace HC := Lib.hid (And.intro hb2 HC.out.2)
  clear hw2 hm2 hb2
  refine bodyPost_ret (v := .tuple #[]) (by simp [results, Try.results45, go_sem]) rfl ?_
  exact ⟨rfl, H.out, HM.out, HC.out.1⟩

theorem rop0_any (T : Nat → Prop) (rb g : Nat) (cs cq kd : Int) (k0 : ¬ (1 ≤ kd ∧ kd ≤ 5)) (s : St) (w : World) (h : RrAt w T rb s) (hb : Blk w g 36 (⟨cs, cq, Ox.zero kd⟩ : Co).L.toArray) (hg : ¬ T g) :
    Calls Try.prog 45 #[ri rb, .pointer (some ⟨g, 2, none⟩)] w (RrDid T rb g 36 (⟨cs, cq, Ox.zero kd⟩ : Co).L.toArray s w) := by
  obtain ⟨tx, htx⟩ : ∃ tx, tx = ByteArray.empty := ⟨_, rfl⟩
  have x2 : w.cell? ⟨g, 2, none⟩ = some (.int .i64 kd) := hb.cell 2
  have x37 : w.cell? ⟨g, 37, none⟩ = some (.string tx) := by rw [htx]; exact (hb.cell 37).trans (Co.at37 (c := ⟨cs, cq, Ox.zero kd⟩) z32_len)
  have hcv := Lib.run_convert_string_bytes (P := Try.prog) w 9 23 5 tx Try.underlying9 Try.underlying23 Try.underlying5
  have hbw := bytes_below w tx
  have y2 : (Lib.bytesWorld w 5 tx).cell? ⟨g, 2, none⟩ = some (.int .i64 kd) := (hbw.cell (p := ⟨g, 2, none⟩) hb.lt).trans x2
  have lg := hb.lt
  have lg2 : g < (Lib.bytesWorld w 5 tx).heap.size := Nat.lt_of_lt_of_le hb.lt hbw.size
  have e1 : (kd == 1) = false := by simp; omega
  have e2 : (kd == 2) = false := by simp; omega
  have e3 : (kd == 3) = false := by simp; omega
  have e4 : (kd == 4) = false := by simp; omega
  have e5 : (kd == 5) = false := by simp; omega
  have HH := Lib.hid (And.intro h (And.intro hb hbw))
  clear h hb hg hbw htx k0
  go_enter Try.func45, Try.ntmps45
  go_wp2_with fail
  refine bodyPost_ret (v := .tuple #[]) (by simp [results, Try.results45, go_sem]) rfl ?_
  obtain ⟨h, hb, hbw⟩ := HH.out
  have hba : ∀ o : Obj, Below w.heap.size w ((Lib.bytesWorld w 5 tx).alloc o) := fun o => hbw.alloc hbw.size _
  exact ⟨rfl, h.below (hba _), Mod.of_below (hba _), hb.later (hba _)⟩
theorem rop_any (T : Nat → Prop) (rb g : Nat) (cs cq kd : Int) (s : St) (w : World) (h : RrAt w T rb s) (hb : Blk w g 36 (⟨cs, cq, Ox.zero kd⟩ : Co).L.toArray) (hg : ¬ T g) :
    Calls Try.prog 45 #[ri rb, .pointer (some ⟨g, 2, none⟩)] w (RrDid T rb g 36 (⟨cs, cq, rop kd s⟩ : Co).L.toArray (ropS kd s) w) := by
  by_cases k1 : kd = 1
  · subst k1; exact rop1_any T rb g cs cq ByteArray.empty s w h hb hg
  · by_cases k2 : kd = 2
    · subst k2; exact rop2_any T rb g cs cq ByteArray.empty s w h hb hg
    · by_cases k3 : kd = 3
      · subst k3; exact rop3_any T rb g cs cq ByteArray.empty s w h hb hg
      · by_cases k4 : kd = 4
        · subst k4; exact rop4_any T rb g cs cq ByteArray.empty s w h hb hg
        · by_cases k5 : kd = 5
          · subst k5; exact rop5_any T rb g cs cq ByteArray.empty s w h hb hg
          · have e1 : rop kd s = Ox.zero kd := by unfold rop; rw [if_neg (by omega), if_neg k3, if_neg k4, if_neg k5]
            have e2 : ropS kd s = s := by unfold ropS; rw [if_neg (by omega), if_neg k3, if_neg k4, if_neg k5]
            rw [e1, e2]
            exact rop0_any T rb g cs cq kd (by omega) s w h hb hg
end

section
def zCo : Co := ⟨0, 0, Ox.zero 0⟩
def v1 (ys : List Int) : St := (⟨ys, 0⟩ : St).nx 1
def v2 (ys : List Int) : St := (v1 ys).nx 7
def vKd (ys : List Int) : Int := (v2 ys).num 1
def vA (ys : List Int) : St := ((v2 ys).nx 1).fail (!wiB (vKd ys) 1 5) 4
def vB (ys : List Int) : St := ropS (vKd ys) (vA ys)
def vC (ys : List Int) : Co := ⟨(⟨ys, 0⟩ : St).num 1, (v1 ys).num 7, rop (vKd ys) (vA ys)⟩
def vZ (ys : List Int) : St := (vB ys).fail (decide (0 < ((vB ys).l.length : Int)) || !(cmB (vC ys))) 4
theorem rop_ks (kd : Int) (s : St) : (rop kd s).ks.length = 32 := by
  unfold rop
  split
  · exact keyZ_len _
  · split
    · exact z32_len
    · split
      · exact z32_len
      · split
        · exact z32_len
        · exact z32_len
theorem step_store36 {ops : Array Oper} {rest : List Oper} {op : Oper} {a : Act} {w : World} {Q : Exit → Act → World → Prop} (hgd : op.guard = none) (x y : Operand) (ho : op.op = .store 36 x y)
    (g : Nat) (hx : a.eval x = .pointer (some ⟨g, 0, none⟩)) (c : Co) (hk : c.o.ks.length = 32) (hy : a.eval y = c.v) (old : Array Value) (hb : Blk w g 36 old) (hs : old.size = 39)
    (h : ∀ w', Blk w' g 36 c.L.toArray → Mod (fun j => j = g) w w' → w'.heap.size = w.heap.size → wpList Try.prog ops Q rest (a.put op.dst undef) w') : wpList Try.prog ops Q (op :: rest) a w :=
  wpList_store_row hgd 36 x y ho g c.L.toArray hx hy 36 old hb (by rw [info36]; simp [Co.len hk]) (by simp [hs, Co.len hk]) (all_one (l := c.L) (fun v hv => by
      simp only [Co.L, List.mem_cons] at hv
      rcases hv with rfl | rfl | hv
      · rfl
      · rfl
      · exact L_one _ _ hv))
    (h _ (hb.setRow _) ((Mod.refl (fun j => j = g) w).setRow (.inl rfl) _) (by simp [World.setRow]))
theorem zCo_one : ∀ v ∈ zCo.L, v.oneCell' = true := by
  intro v hv
  simp only [Co.L, List.mem_cons] at hv
  rcases hv with rfl | rfl | hv
  · rfl
  · rfl
  · exact L_one _ _ hv
theorem s36_sets {rb g o n : Nat} {E : Int} {w : World} {vs : List Value} (hne : rb ≠ g) (h : w.cell? ⟨rb, 1, none⟩ = some (.int .i64 E) ∧ w.there g 0 n) : (w.setCells g o vs).cell? ⟨rb, 1, none⟩ = some (.int .i64 E) ∧ (w.setCells g o vs).there g 0 n :=
  ⟨by rw [World.cell?_setCells_out g vs o w _ (fun hb => absurd hb hne)]; exact h.1, World.there_setCells h.2 _ _ _⟩
theorem load36v {w : World} {g : Nat} {c : Co} (hb : Blk w g 36 c.L.toArray) (hk : c.o.ks.length = 32) : (loadVar 36 ⟨g, 0, none⟩).run Try.prog w = .ok c.v w :=
  run_loadVar_row w g 36 36 c.L.toArray (0, 0) _ hb Try.underlying36 rfl (by rw [info36]; simp [Co.len hk])
def CmDid (ys : List Int) (w : World) (e : Ending) (w' : World) : Prop :=
  ∃ c : Co, e = .returned (.tuple #[c.v, .int .i64 (vZ ys).e]) ∧ c.o.ks.length = 32 ∧ Below w.heap.size w w' ∧ (((vZ ys).e = 0 ∧ c = vC ys) ∨ ((vZ ys).e ≠ 0 ∧ c = zCo))
set_option maxHeartbeats 4000000 in
theorem command_any (T : Nat → Prop) (A : Option Addr) (c : Nat) (ys : List Int) (W : World) (hr : Rd W T 1 (.slice A ys.length c) ys.length (bts ys)) (hT : ∀ i, T i → i < W.heap.size) (hb : Byt ys) (hl : ys.length ≤ 140737488351232) :
    Calls Try.prog 18 #[.slice A ys.length c] W (CmDid ys W) := by
  have HR := Lib.hid hr
  have HT := Lib.hid hT
  have HY := Lib.hid hb
  have hmf := mkfn
  clear hr hT hb
  go_enter Try.func18, Try.ntmps18
  go_wp2_with fail
  refine (Wr.rnew_any T A c ys _ (HR.out.below (Ba (B0 W) _) HT.out) (fun i hi => Nat.lt_of_lt_of_le (HT.out i hi) (by simp)) (by omega)).mono ?_
  rintro e w1 ⟨p, S, rfl, hrd, hb1, hS⟩
  have hSl : ∀ i, S i → i < w1.heap.size := by obtain ⟨_, _, _, _, h⟩ := hrd; exact h.1
  have HZ0 := Lib.hid (show Blk w1 W.heap.size 36 zCo.L.toArray from (Blk.new W 36 zCo.L.toArray).later hb1)
  obtain ⟨rb, hrb⟩ : ∃ rb, rb = w1.heap.size := ⟨_, rfl⟩
  obtain ⟨g, hg⟩ : ∃ g, g = w1.heap.size + 1 := ⟨_, rfl⟩
  obtain ⟨wa, hwa⟩ : ∃ wa, wa = (w1.alloc (.cells #[.pointer (some ⟨p, 0, none⟩), .int .i64 0] 76)).alloc (.cells zCo.L.toArray 36) := ⟨_, rfl⟩
  obtain ⟨T', hT'⟩ : ∃ T' : Nat → Prop, T' = fun i => S i ∨ i = rb := ⟨_, rfl⟩
  have lW : W.heap.size < w1.heap.size := Nat.lt_of_lt_of_le (by simp) hb1.size
  have H := Lib.hid (show RrAt wa T' rb ⟨ys, 0⟩ by
    rw [hwa, hT', hrb]
    exact ⟨.inr rfl, fun i hi => hi.elim (fun h => Nat.lt_of_lt_of_le (hSl i h) (by simp; omega)) (fun h => by subst h; simp; omega), HY.out, p, S, fun i hi => .inl hi, fun h => by have := hSl _ h; omega, (Blk.new w1 76 _).alloc _, hrd.below (Ba (Ba (B0 w1) _) _)⟩)
  have HC := Lib.hid (show Blk wa g 36 zCo.L.toArray by rw [hwa, hg]; exact Blk.new1 w1 _ _ _)
  have HB := Lib.hid (show Below W.heap.size W wa by rw [hwa]; exact Ba (Ba (Bt (Ba (B0 W) _) hb1) _) _)
  have HZ := Lib.hid (show Blk wa W.heap.size 36 zCo.L.toArray by rw [hwa]; exact (HZ0.out.alloc _).alloc _)
  have HTW := Lib.hid (show ∀ i, (T' i ∨ i = g) → W.heap.size < i from fun i hi => by
    rw [hT'] at hi
    rcases hi with (h | h) | h
    · have := hS i h; simp at this; omega
    · omega
    · omega)
  have HCT := Lib.hid (show ¬ T' g by rw [hT']; exact fun h => h.elim (fun h => by have := hSl _ h; omega) (fun h => by omega))
  have HW := Lib.hid (show ∀ (a b : World), Below W.heap.size W a → Mod (fun i => T' i ∨ i = g) a b → Below W.heap.size W b from fun a b ha hm => Bm ha hm (fun i hi => Nat.le_of_lt (HTW.out i hi)))
  have HZn := Lib.hid (show ¬ (T' W.heap.size ∨ W.heap.size = g) from fun h => by have := HTW.out _ h; omega)
  have HWA := Lib.hid hwa
  have hna1 := nil_rnumber rb
  have lgW : W.heap.size < g := by omega
  have HRB := Lib.hid hrb
  have HG := Lib.hid hg
  clear hrd hb1 hS hSl lW hT' hrb hg hwa HZ0
  go_wp2_with fail
  rw [← HG.out, ← HRB.out]
  change Calls _ _ _ ((w1.alloc (.cells #[.pointer (some ⟨p, 0, none⟩), .int .i64 0] 76)).alloc (.cells zCo.L.toArray 36)) _
  rw [← HWA.out]
  obtain ⟨cs, hcs⟩ : ∃ x, x = (⟨ys, 0⟩ : St).num 1 := ⟨_, rfl⟩
  obtain ⟨cq, hcq⟩ : ∃ x, x = (v1 ys).num 7 := ⟨_, rfl⟩
  obtain ⟨kd, hkd⟩ : ∃ x, x = vKd ys := ⟨_, rfl⟩
  have HCS := Lib.hid hcs
  have HCQ := Lib.hid hcq
  have HKD := Lib.hid hkd
  refine (rnum_any T' rb g 0 1 36 _ 0 ⟨ys, 0⟩ wa H.out HC.out HCT.out rfl).mono ?_
  rw [num0, ← hcs]
  clear hcs hcq hkd
  rintro e w2 ⟨rfl, hr, hm, hk⟩
  replace H := Lib.hid (show RrAt w2 T' rb (v1 ys) from hr)
  replace HC := Lib.hid (show Blk w2 g 36 (⟨cs, 0, Ox.zero 0⟩ : Co).L.toArray from hk)
  replace HZ := Lib.hid (HZ.out.kept hm HZn.out)
  replace HB := Lib.hid (HW.out _ _ HB.out hm)
  clear hr hm hk
  go_wp2_with fail
  refine (rnum_any T' rb g 1 7 36 _ 0 (v1 ys) w2 H.out HC.out HCT.out rfl).mono ?_
  rw [num0, ← HCQ.out]
  rintro e w3 ⟨rfl, hr, hm, hk⟩
  replace H := Lib.hid (show RrAt w3 T' rb (v2 ys) from hr)
  replace HC := Lib.hid (show Blk w3 g 36 (⟨cs, cq, Ox.zero 0⟩ : Co).L.toArray from hk)
  replace HZ := Lib.hid (HZ.out.kept hm HZn.out)
  replace HB := Lib.hid (HW.out _ _ HB.out hm)
  clear hr hm hk
  go_wp2_with fail
  refine (rnum_any T' rb g 2 1 36 _ 0 (v2 ys) w3 H.out HC.out HCT.out rfl).mono ?_
  rw [num0, show (v2 ys).num 1 = kd from HKD.out.symm]
  rintro e w4 ⟨rfl, hr, hm, hk⟩
  replace H := Lib.hid hr
  replace HC := Lib.hid (show Blk w4 g 36 (⟨cs, cq, Ox.zero kd⟩ : Co).L.toArray from hk)
  replace HZ := Lib.hid (HZ.out.kept hm HZn.out)
  replace HB := Lib.hid (HW.out _ _ HB.out hm)
  have y2 : w4.cell? ⟨g, 2, none⟩ = some (.int .i64 kd) := HC.out.cell 2
  have lg4 := HC.out.lt
  clear hr hm hk
  go_wp2_with fail
  refine (within_any kd 1 5 w4).mono ?_
  rintro e w' ⟨rfl, rfl⟩
  go_wp2_with fail
  refine (rfail_any T' rb (!wiB kd 1 5) 4 _ w4 H.out).mono ?_
  rintro e w5 ⟨rfl, hr, hm⟩
  replace H := Lib.hid (show RrAt w5 T' rb (vA ys) by unfold vA; rw [← HKD.out]; exact hr)
  replace HC := Lib.hid (HC.out.kept hm HCT.out)
  have hm' := hm.mono (T := fun i => T' i ∨ i = g) (fun i hi => .inl hi)
  replace HZ := Lib.hid (HZ.out.kept hm' HZn.out)
  replace HB := Lib.hid (HW.out _ _ HB.out hm')
  clear hr hm hm' y2 lg4
  go_wp2_with fail
  refine (rop_any T' rb g cs cq kd (vA ys) w5 H.out HC.out HCT.out).mono ?_
  rintro e w6 ⟨rfl, hr, hm, hk⟩
  obtain ⟨co, hco⟩ : ∃ co, co = vC ys := ⟨_, rfl⟩
  replace H := Lib.hid (show RrAt w6 T' rb (vB ys) by unfold vB; rw [← HKD.out]; exact hr)
  replace HC := Lib.hid (show Blk w6 g 36 co.L.toArray by rw [hco, vC, ← HKD.out, ← HCS.out, ← HCQ.out]; exact hk)
  have HCO := Lib.hid hco
  have HK := Lib.hid (show co.o.ks.length = 32 by rw [hco]; exact rop_ks _ _)
  replace HZ := Lib.hid (HZ.out.kept hm HZn.out)
  replace HB := Lib.hid (HW.out _ _ HB.out hm)
  clear hr hm hk hco
  obtain ⟨_, hTl, hokB, p5, S5, _, _, hb5, hrd5⟩ := H.out
  obtain ⟨b0, b1, f0, f1⟩ := blk2 hb5
  have lrb := hb5.lt
  have HRD := Lib.hid hrd5
  clear hTl hokB hb5 hrd5
  go_wp2_with fail
  refine (Wr.left_any S5 p5 _ w6 HRD.out).mono ?_
  rintro e wl ⟨rfl, nl, rfl⟩
  obtain ⟨w7, hw7⟩ : ∃ w7, w7 = w6.drewN nl := ⟨_, rfl⟩
  rw [← hw7]
  have hb7 : Below w6.heap.size w6 w7 := by rw [hw7]; exact BdN (B0 _) _
  replace H := Lib.hid (H.out.below hb7)
  replace HC := Lib.hid (HC.out.later hb7)
  replace HZ := Lib.hid (HZ.out.later hb7)
  replace HB := Lib.hid (Bt HB.out hb7)
  clear hw7 hb7 HRD b0 b1 f0 f1 lrb
  obtain ⟨n, hn⟩ : ∃ n, n = (vB ys).l.length := ⟨_, rfl⟩
  rw [← hn]
  have HN := Lib.hid hn
  clear hn
  obtain ⟨bad, hbad⟩ : ∃ b, b = (decide (0 < (n : Int)) || !(cmB co)) := ⟨_, rfl⟩
  have HBAD := Lib.hid (show (vB ys).fail bad 4 = vZ ys by rw [hbad, HN.out, HCO.out]; rfl)
  by_cases hpos : 0 < n
  · have hn2 : (0 : Int) < (n : Int) := by omega
    have eb : bad = true := by rw [hbad, decide_eq_true hn2]; rfl
    clear hbad
    rw [eb] at HBAD
    go_wp2_with fail
    refine (rfail_any T' rb true 4 (vB ys) w7 H.out).mono ?_
    rintro e w8 ⟨rfl, hr, hm⟩
    replace H := Lib.hid (show RrAt w8 T' rb (vZ ys) by have := HBAD.out; rw [← this]; exact hr)
    have hm' := hm.mono (T := fun i => T' i ∨ i = g) (fun i hi => .inl hi)
    replace HC := Lib.hid (HC.out.kept hm HCT.out)
    replace HZ := Lib.hid (HZ.out.kept hm' HZn.out)
    replace HB := Lib.hid (HW.out _ _ HB.out hm')
    clear hm hm' hr
    obtain ⟨_, _, _, p8, S8, _, _, hb8, _⟩ := H.out
    obtain ⟨b0, b1, f0, f1⟩ := blk2 hb8
    have lrb := hb8.lt
    have hrw : W.heap.size < rb := HTW.out rb (.inl ‹T' rb›)
    obtain ⟨E, hE⟩ : ∃ E, E = (vZ ys).e := ⟨_, rfl⟩
    have HE := Lib.hid hE
    rw [← hE] at b1
    clear hb8 hE
    by_cases h0 : E = 0
    · subst h0
      go_wp2_with (first | (refine step_load36 rfl (.tmp 5) rfl g rfl co HK.out (blk_range HC.out) ?_) | (refine step_store36 rfl (.tmp 2) (.tmp 54) rfl W.heap.size rfl co HK.out rfl _ HZ.out (by simp [Co.len (c := zCo) z32_len]) ?_; intro w9 hb9 hm9 hs9; have HB9 := Lib.hid hb9; have HM9 := Lib.hid hm9; clear hb9 hm9 hs9) | fail)
      refine bodyPost_ret (v := .tuple #[co.v, .int .i64 0]) (by simp [results, Try.results18, asAddr, load36v HB9.out HK.out]) rfl ?_
      exact ⟨co, by rw [← HE.out], HK.out, HB.out.trans (HM9.out.below HB.out.size (fun i hi => by subst hi; exact Nat.le_refl _)), .inl ⟨HE.out.symm, HCO.out⟩⟩
    · have hq : (E != 0) = true := by simpa using h0
      have hi := info36
      have hu := Try.underlying36
      have hth := there_of_blk HZ.out (o := 0) (n := 39) (by simp [Co.len (c := zCo) z32_len])
      have hne : rb ≠ W.heap.size := by omega
      have hh1 : zCo.L.toArray.all (·.oneCell') = true := all_one (l := zCo.L) zCo_one
      go_wp2_with fail
      refine wp_region_held_drew (S := (fun w' => w'.cell? ⟨rb, 1, none⟩ = some (.int .i64 E))) (by kernel_rfl) (b1) (fun hHeld => ?_)
      refine wpAnyH_take (i := 0) (v := ?_) rfl (by kernel_rfl) (by kernel_rfl) (by kernel_rfl) (fun _ _ _ h => h) (Or.inl ⟨by kernel_rfl, ?_⟩) (by assumption) ?_
      rotate_left 1
      · (intro w hSw; (try dsimp only at hSw); go_simp; try with_reducible rfl)
      try simp only [Act.put, List.getElem_toArray, List.getElem_cons_succ, List.getElem_cons_zero, List.setIfInBounds_toArray, List.set_cons_zero, List.set_cons_succ]
      refine wpAnyH_take (i := 1) (v := ?_) rfl (by kernel_rfl) (by kernel_rfl) (by kernel_rfl) (fun _ _ _ h => h) (Or.inl ⟨by kernel_rfl, ?_⟩) (by assumption) ?_
      rotate_left 1
      · (intro w hSw; (try dsimp only at hSw); go_simp; try with_reducible rfl)
      try simp only [Act.put, List.getElem_toArray, List.getElem_cons_succ, List.getElem_cons_zero, List.setIfInBounds_toArray, List.set_cons_zero, List.set_cons_succ]
      refine wpAnyH_take (i := 2) (v := ?_) rfl (by kernel_rfl) (by kernel_rfl) (by kernel_rfl) (fun _ _ _ h => h) (Or.inl ⟨by kernel_rfl, ?_⟩) (by assumption) ?_
      rotate_left 1
      · (intro w hSw; (try dsimp only at hSw); go_simp; try with_reducible rfl)
      try simp only [Act.put, List.getElem_toArray, List.getElem_cons_succ, List.getElem_cons_zero, List.setIfInBounds_toArray, List.set_cons_zero, List.set_cons_succ]
      refine wpAnyH_take (i := 3) (v := ?_) rfl (by kernel_rfl) (by kernel_rfl) (by kernel_rfl) (fun _ _ _ h => h) (Or.inl ⟨by kernel_rfl, ?_⟩) (by assumption) ?_
      rotate_left 1
      · (intro w hSw; (try dsimp only at hSw); go_simp; try with_reducible rfl)
      try simp only [Act.put, List.getElem_toArray, List.getElem_cons_succ, List.getElem_cons_zero, List.setIfInBounds_toArray, List.set_cons_zero, List.set_cons_succ]
      refine wpAnyH_take (i := 4) (v := ?_) rfl (by kernel_rfl) (by kernel_rfl) (by kernel_rfl) (fun _ _ _ h => h) (Or.inl ⟨by kernel_rfl, ?_⟩) (by assumption) ?_
      rotate_left 1
      · (intro w hSw; (try dsimp only at hSw); go_simp; try with_reducible rfl)
      try simp only [Act.put, List.getElem_toArray, List.getElem_cons_succ, List.getElem_cons_zero, List.setIfInBounds_toArray, List.set_cons_zero, List.set_cons_succ]
      refine wpAnyH_ready (rs := [5]) (by kernel_rfl) (by simp) ?_
      refine AllReadyH.cons rfl (fun K hK => ?_) AllReadyH.nil
      refine wp_store_row 36 (.tmp 2) (.tmp 49) rfl W.heap.size zCo.L.toArray rfl rfl 36 zCo.L.toArray HZ.out.drew (by rw [info36]; rfl) rfl hh1 ?_
      have HN9 := Lib.hid (show Blk (w8.drew.setRow W.heap.size zCo.L.toArray) W.heap.size 36 zCo.L.toArray from HZ.out.drew.setRow _)
      have HM9 := Lib.hid (show Mod (fun j => j = W.heap.size) w8.drew (w8.drew.setRow W.heap.size zCo.L.toArray) from (Mod.refl (fun j => j = W.heap.size) w8.drew).setRow (.inl rfl) _)
      refine hK.out _ _ ((HM9.out.cell (p := ⟨rb, 1, none⟩) (show w8.drew.cell? ⟨rb, 1, none⟩ = some (.int .i64 E) from b1) hne)) (fun hHeld => ?_)
      clear hK K
      try simp only [Act.put, List.getElem_toArray, List.getElem_cons_succ, List.getElem_cons_zero, List.setIfInBounds_toArray, List.set_cons_zero, List.set_cons_succ]
      refine wpAnyH_take (i := 6) (v := ?_) rfl (by kernel_rfl) (by kernel_rfl) (by kernel_rfl) (fun _ _ _ h => h) (Or.inl ⟨by kernel_rfl, ?_⟩) (by assumption) ?_
      rotate_left 1
      · (intro w hSw; (try dsimp only at hSw); go_simp; try with_reducible rfl)
      try simp only [Act.put, List.getElem_toArray, List.getElem_cons_succ, List.getElem_cons_zero, List.setIfInBounds_toArray, List.set_cons_zero, List.set_cons_succ]
      refine wpAnyH_done (by kernel_rfl) ?_ _
      go_wp2_with fail
      refine bodyPost_ret (v := .tuple #[zCo.v, .int .i64 E]) (by simp [results, Try.results18, asAddr, load36v HN9.out (show zCo.o.ks.length = 32 from z32_len)]) rfl ?_
      exact ⟨zCo, by rw [← HE.out], z32_len, (Bd HB.out).trans (HM9.out.below (Bd HB.out).size (fun i hi => by subst hi; exact Nat.le_refl _)), .inr ⟨by rw [← HE.out]; exact h0, rfl⟩⟩

  · have hn2 : ¬ (0 : Int) < (n : Int) := by omega
    obtain ⟨cm, hcm⟩ : ∃ cm, cm = cmB co := ⟨_, rfl⟩
    have eb : bad = !cm := by rw [hbad, decide_eq_false hn2, ← hcm]; rfl
    have HCM := Lib.hid hcm
    clear hbad hcm
    rw [eb] at HBAD
    go_wp2_with (first | (refine step_load36 (by first | rfl | simp [Region.wanted, yielded]) (.tmp 5) rfl g rfl co HK.out (blk_range HC.out) ?_) | fail)
    refine (cmay_any co w7 HK.out).mono ?_
    rw [← HCM.out]
    rintro e w7b ⟨rfl, hbm⟩
    replace H := Lib.hid (H.out.below hbm)
    replace HC := Lib.hid (HC.out.later hbm)
    replace HZ := Lib.hid (HZ.out.later hbm)
    replace HB := Lib.hid (Bt HB.out hbm)
    clear hbm
    go_wp2_with fail
    refine (rfail_any T' rb (!cm) 4 (vB ys) w7b H.out).mono ?_
    rintro e w8 ⟨rfl, hr, hm⟩
    replace H := Lib.hid (show RrAt w8 T' rb (vZ ys) by have := HBAD.out; rw [← this]; exact hr)
    have hm' := hm.mono (T := fun i => T' i ∨ i = g) (fun i hi => .inl hi)
    replace HC := Lib.hid (HC.out.kept hm HCT.out)
    replace HZ := Lib.hid (HZ.out.kept hm' HZn.out)
    replace HB := Lib.hid (HW.out _ _ HB.out hm')
    clear hm hm' hr
    obtain ⟨_, _, _, p8, S8, _, _, hb8, _⟩ := H.out
    obtain ⟨b0, b1, f0, f1⟩ := blk2 hb8
    have lrb := hb8.lt
    have hrw : W.heap.size < rb := HTW.out rb (.inl ‹T' rb›)
    obtain ⟨E, hE⟩ : ∃ E, E = (vZ ys).e := ⟨_, rfl⟩
    have HE := Lib.hid hE
    rw [← hE] at b1
    clear hb8 hE
    by_cases h0 : E = 0
    · subst h0
      go_wp2_with (first | (refine step_load36 rfl (.tmp 5) rfl g rfl co HK.out (blk_range HC.out) ?_) | (refine step_store36 rfl (.tmp 2) (.tmp 54) rfl W.heap.size rfl co HK.out rfl _ HZ.out (by simp [Co.len (c := zCo) z32_len]) ?_; intro w9 hb9 hm9 hs9; have HB9 := Lib.hid hb9; have HM9 := Lib.hid hm9; clear hb9 hm9 hs9) | fail)
      refine bodyPost_ret (v := .tuple #[co.v, .int .i64 0]) (by simp [results, Try.results18, asAddr, load36v HB9.out HK.out]) rfl ?_
      exact ⟨co, by rw [← HE.out], HK.out, HB.out.trans (HM9.out.below HB.out.size (fun i hi => by subst hi; exact Nat.le_refl _)), .inl ⟨HE.out.symm, HCO.out⟩⟩
    · have hq : (E != 0) = true := by simpa using h0
      have hi := info36
      have hu := Try.underlying36
      have hth := there_of_blk HZ.out (o := 0) (n := 39) (by simp [Co.len (c := zCo) z32_len])
      have hne : rb ≠ W.heap.size := by omega
      have hh1 : zCo.L.toArray.all (·.oneCell') = true := all_one (l := zCo.L) zCo_one
      go_wp2_with fail
      refine wp_region_held_drew (S := (fun w' => w'.cell? ⟨rb, 1, none⟩ = some (.int .i64 E))) (by kernel_rfl) (b1) (fun hHeld => ?_)
      refine wpAnyH_take (i := 0) (v := ?_) rfl (by kernel_rfl) (by kernel_rfl) (by kernel_rfl) (fun _ _ _ h => h) (Or.inl ⟨by kernel_rfl, ?_⟩) (by assumption) ?_
      rotate_left 1
      · (intro w hSw; (try dsimp only at hSw); go_simp; try with_reducible rfl)
      try simp only [Act.put, List.getElem_toArray, List.getElem_cons_succ, List.getElem_cons_zero, List.setIfInBounds_toArray, List.set_cons_zero, List.set_cons_succ]
      refine wpAnyH_take (i := 1) (v := ?_) rfl (by kernel_rfl) (by kernel_rfl) (by kernel_rfl) (fun _ _ _ h => h) (Or.inl ⟨by kernel_rfl, ?_⟩) (by assumption) ?_
      rotate_left 1
      · (intro w hSw; (try dsimp only at hSw); go_simp; try with_reducible rfl)
      try simp only [Act.put, List.getElem_toArray, List.getElem_cons_succ, List.getElem_cons_zero, List.setIfInBounds_toArray, List.set_cons_zero, List.set_cons_succ]
      refine wpAnyH_take (i := 2) (v := ?_) rfl (by kernel_rfl) (by kernel_rfl) (by kernel_rfl) (fun _ _ _ h => h) (Or.inl ⟨by kernel_rfl, ?_⟩) (by assumption) ?_
      rotate_left 1
      · (intro w hSw; (try dsimp only at hSw); go_simp; try with_reducible rfl)
      try simp only [Act.put, List.getElem_toArray, List.getElem_cons_succ, List.getElem_cons_zero, List.setIfInBounds_toArray, List.set_cons_zero, List.set_cons_succ]
      refine wpAnyH_take (i := 3) (v := ?_) rfl (by kernel_rfl) (by kernel_rfl) (by kernel_rfl) (fun _ _ _ h => h) (Or.inl ⟨by kernel_rfl, ?_⟩) (by assumption) ?_
      rotate_left 1
      · (intro w hSw; (try dsimp only at hSw); go_simp; try with_reducible rfl)
      try simp only [Act.put, List.getElem_toArray, List.getElem_cons_succ, List.getElem_cons_zero, List.setIfInBounds_toArray, List.set_cons_zero, List.set_cons_succ]
      refine wpAnyH_take (i := 4) (v := ?_) rfl (by kernel_rfl) (by kernel_rfl) (by kernel_rfl) (fun _ _ _ h => h) (Or.inl ⟨by kernel_rfl, ?_⟩) (by assumption) ?_
      rotate_left 1
      · (intro w hSw; (try dsimp only at hSw); go_simp; try with_reducible rfl)
      try simp only [Act.put, List.getElem_toArray, List.getElem_cons_succ, List.getElem_cons_zero, List.setIfInBounds_toArray, List.set_cons_zero, List.set_cons_succ]
      refine wpAnyH_ready (rs := [5]) (by kernel_rfl) (by simp) ?_
      refine AllReadyH.cons rfl (fun K hK => ?_) AllReadyH.nil
      refine wp_store_row 36 (.tmp 2) (.tmp 49) rfl W.heap.size zCo.L.toArray rfl rfl 36 zCo.L.toArray HZ.out.drew (by rw [info36]; rfl) rfl hh1 ?_
      have HN9 := Lib.hid (show Blk (w8.drew.setRow W.heap.size zCo.L.toArray) W.heap.size 36 zCo.L.toArray from HZ.out.drew.setRow _)
      have HM9 := Lib.hid (show Mod (fun j => j = W.heap.size) w8.drew (w8.drew.setRow W.heap.size zCo.L.toArray) from (Mod.refl (fun j => j = W.heap.size) w8.drew).setRow (.inl rfl) _)
      refine hK.out _ _ ((HM9.out.cell (p := ⟨rb, 1, none⟩) (show w8.drew.cell? ⟨rb, 1, none⟩ = some (.int .i64 E) from b1) hne)) (fun hHeld => ?_)
      clear hK K
      try simp only [Act.put, List.getElem_toArray, List.getElem_cons_succ, List.getElem_cons_zero, List.setIfInBounds_toArray, List.set_cons_zero, List.set_cons_succ]
      refine wpAnyH_take (i := 6) (v := ?_) rfl (by kernel_rfl) (by kernel_rfl) (by kernel_rfl) (fun _ _ _ h => h) (Or.inl ⟨by kernel_rfl, ?_⟩) (by assumption) ?_
      rotate_left 1
      · (intro w hSw; (try dsimp only at hSw); go_simp; try with_reducible rfl)
      try simp only [Act.put, List.getElem_toArray, List.getElem_cons_succ, List.getElem_cons_zero, List.setIfInBounds_toArray, List.set_cons_zero, List.set_cons_succ]
      refine wpAnyH_done (by kernel_rfl) ?_ _
      go_wp2_with fail
      refine bodyPost_ret (v := .tuple #[zCo.v, .int .i64 E]) (by simp [results, Try.results18, asAddr, load36v HN9.out (show zCo.o.ks.length = 32 from z32_len)]) rfl ?_
      exact ⟨zCo, by rw [← HE.out], z32_len, (Bd HB.out).trans (HM9.out.below (Bd HB.out).size (fun i hi => by subst hi; exact Nat.le_refl _)), .inr ⟨by rw [← HE.out]; exact h0, rfl⟩⟩
end
end Go.Proofs.Ytnphnaggamfoiaa
