/- May a command be? (the program's) -/
import Derived.Test.YtnphnaggamfoiaaK1
import Derived.Deep.Cut
import Derived.Deep.CutBlock
import Derived.Deep.CutRange
import Derived.Deep.RegionHeld3
namespace Go.Proofs.Ytnphnaggamfoiaa
open Go.RowKit
set_option maxRecDepth 20000
set_option linter.unusedVariables false
set_option linter.unusedSimpArgs false

theorem step_load34 {ops : Array Oper} {rest : List Oper} {op : Oper} {a : Act} {w : World} {Q : Exit → Act → World → Prop} (hw : Region.wanted op (yielded ops a.tmps) = true) (x : Operand) (ho : op.op = .load 34 x)
    (b off : Nat) (hx : a.eval x = .pointer (some ⟨b, off, none⟩)) (c : Ox) (hk : c.ks.length = 32) (hr : w.rangeAt b off c.L)
    (h : wpList Try.prog ops Q rest (a.put op.dst c.v) w) : wpList Try.prog ops Q (op :: rest) a w :=
  BigFrame.wpList_want hw fun K hK => wp_load_mid 34 x ho b off hx c.L _ hr Try.underlying34 rfl (by rw [info34, Ox.len hk]) (hK _ _ h)
theorem step_load36 {ops : Array Oper} {rest : List Oper} {op : Oper} {a : Act} {w : World} {Q : Exit → Act → World → Prop} (hw : Region.wanted op (yielded ops a.tmps) = true) (x : Operand) (ho : op.op = .load 36 x)
    (b : Nat) (hx : a.eval x = .pointer (some ⟨b, 0, none⟩)) (c : Co) (hk : c.o.ks.length = 32) (hr : w.rangeAt b 0 c.L)
    (h : wpList Try.prog ops Q rest (a.put op.dst c.v) w) : wpList Try.prog ops Q (op :: rest) a w :=
  BigFrame.wpList_want hw fun K hK => wp_load_mid 36 x ho b 0 hx c.L _ hr Try.underlying36 rfl (by rw [info36, Co.len hk]) (hK _ _ h)
theorem all_one {l : List Value} (h : ∀ v ∈ l, v.oneCell' = true) : l.toArray.all (·.oneCell') = true := all_oneCell_toArray h
theorem step_store34 {ops : Array Oper} {rest : List Oper} {op : Oper} {a : Act} {w : World} {Q : Exit → Act → World → Prop} (hgd : op.guard = none) (x y : Operand) (ho : op.op = .store 34 x y)
    (g : Nat) (hx : a.eval x = .pointer (some ⟨g, 0, none⟩)) (c : Ox) (hk : c.ks.length = 32) (hy : a.eval y = c.v) (old : Array Value) (hb : Blk w g 34 old) (hs : old.size = 37)
    (h : ∀ w', Blk w' g 34 c.L.toArray → Mod (fun j => j = g) w w' → w'.heap.size = w.heap.size → wpList Try.prog ops Q rest (a.put op.dst undef) w') : wpList Try.prog ops Q (op :: rest) a w :=
  wpList_store_row hgd 34 x y ho g c.L.toArray hx hy 34 old hb (by rw [info34]; simp [Ox.len hk]) (by simp [hs, Ox.len hk]) (all_one (L_one c))
    (h _ (hb.setRow _) ((Mod.refl (fun j => j = g) w).setRow (.inl rfl) _) (by simp [World.setRow]))
theorem step_eq34 {ops : Array Oper} {rest : List Oper} {op : Oper} {a : Act} {w : World} {Q : Exit → Act → World → Prop} (hw : Region.wanted op (yielded ops a.tmps) = true) (x y : Operand) (ho : op.op = .binOp .eql 34 x y 34)
    (c d : Ox) (hx : a.eval x = c.v) (hy : a.eval y = d.v) (hc : c.ks.length = 32) (hd : d.ks.length = 32) (r : Bool) (hr : oxB c d = r)
    (h : wpList Try.prog ops Q rest (a.put op.dst (.bool r)) w) : wpList Try.prog ops Q (op :: rest) a w :=
  BigFrame.wpList_want hw fun K hK => by
    have hg : Try.prog.eqGuardType Try.prog.depth 34 = false := by kernel_rfl
    unfold Oper.wp execOp
    simp only [ho, hx, hy, Sem.run_bind, run_eqGuard_agg w .eql 34 x y _ _ hg, eq34 hc hd, hr, Result.andThen_ok, Sem.run_pure]
    exact hK _ _ h
/-- What an op of a kind has, of one. -/
def Ox.own (o : Ox) : Ox :=
  if o.kd = 1 ∨ o.kd = 2 then ⟨o.kd, o.nd, o.ks, o.ex, ByteArray.empty, 0⟩ else if o.kd = 3 then ⟨o.kd, o.nd, z32, 0, ByteArray.empty, 0⟩ else if o.kd = 4 then ⟨o.kd, 0, z32, 0, o.tx, 0⟩ else if o.kd = 5 then ⟨o.kd, 0, z32, 0, ByteArray.empty, o.ti⟩ else Ox.zero o.kd
theorem Ox.own_ks {o : Ox} (h : o.ks.length = 32) : o.own.ks.length = 32 := by
  unfold Ox.own
  split
  · exact h
  · split
    · exact z32_len
    · split
      · exact z32_len
      · split
        · exact z32_len
        · exact z32_len
def cmB (c : Co) : Bool := wiB c.s 1 8 && (wiB c.q 1 9007199254740991 && (wiB c.o.kd 1 5 && (oxB c.o c.o.own && (wiB c.o.nd 0 255 && (nuB c.o.ex && (nuB c.o.ti && decide ((c.o.tx.size : Int) ≤ 1024)))))))
theorem blk_range {w : World} {g : Nat} {t : TypeId} {l : List Value} (h : Blk w g t l.toArray) : w.rangeAt g 0 l := fun j u hu => by rw [Nat.zero_add, h.cell j]; simpa using hu
theorem range_set {w : World} {g o i : Nat} {cs : List Value} (h : w.rangeAt g o cs) (hi : i < cs.length) (v : Value) : (w.setCell ⟨g, o + i, none⟩ v).rangeAt g o (cs.set i v) := fun j u hu => by
  by_cases hj : j = i
  · subst hj
    have e : u = v := by rw [List.getElem?_set_self hi] at hu; injection hu with hu; exact hu.symm
    subst e
    exact World.cell?_setCell_same _ _ _ (h j _ (List.getElem?_eq_getElem hi))
  · rw [List.getElem?_set_ne (fun h => hj h.symm)] at hu
    rw [World.cell?_setCell_other _ _ _ _ (by intro h; injection h with _ h; omega)]
    exact h j u hu
theorem range_sets {w : World} {g o i : Nat} {cs vs : List Value} (h : w.rangeAt g o cs) (hi : i + vs.length ≤ cs.length) : (w.setCells g (o + i) vs).rangeAt g o (cs.take i ++ (vs ++ cs.drop (i + vs.length))) := fun j u hu => by
  have hs : ∀ k, k < vs.length → (w.cell? ⟨g, o + i + k, none⟩).isSome = true := fun k hk => by
    rw [show o + i + k = o + (i + k) by omega, h (i + k) _ (List.getElem?_eq_getElem (by omega))]; rfl
  have hti : (cs.take i).length = i := by simp; omega
  by_cases h1 : j < i
  · rw [List.getElem?_append_left (by omega), List.getElem?_take_of_lt h1] at hu
    rw [World.cell?_setCells_out g vs (o + i) w ⟨g, o + j, none⟩ (fun _ _ => by left; show o + j < o + i; omega)]
    exact h j u hu
  · rw [List.getElem?_append_right (by omega), hti] at hu
    by_cases h2 : j - i < vs.length
    · rw [List.getElem?_append_left h2] at hu
      have := World.cell?_setCells_in g vs (o + i) w hs (j - i) h2
      rw [show o + i + (j - i) = o + j by omega] at this
      rw [this, ← hu, List.getElem?_eq_getElem h2]
    · rw [List.getElem?_append_right (by omega), List.getElem?_drop] at hu
      rw [World.cell?_setCells_out g vs (o + i) w ⟨g, o + j, none⟩ (fun _ _ => by right; show o + i + vs.length ≤ o + j; omega)]
      exact h j u (by rw [← hu]; congr 1; omega)
theorem range_other {w : World} {g o : Nat} {cs : List Value} (h : w.rangeAt g o cs) {a : Addr} (ha : a.block ≠ g) (v : Value) : (w.setCell a v).rangeAt g o cs := fun j u hu => by
  rw [World.cell?_setCell_other _ _ _ _ (by intro h; apply ha; rw [h])]
  exact h j u hu
theorem there_set {w : World} {b o n : Nat} (h : w.there b o n) (a : Addr) (v : Value) : (w.setCell a v).there b o n := fun j hj => by
  obtain ⟨h1, h2⟩ := h j hj
  refine ⟨?_, by rw [World.frozen?_setCell]; exact h2⟩
  obtain ⟨u, hu⟩ := Option.isSome_iff_exists.1 h1
  by_cases e : a = (⟨b, o + j, none⟩ : Addr)
  · subst e; rw [World.cell?_setCell_same _ _ _ hu]; rfl
  · rw [World.cell?_setCell_other _ _ _ _ e, hu]; rfl
theorem there_of_blk {w : World} {g : Nat} {t : TypeId} {cs : Array Value} (h : Blk w g t cs) {o n : Nat} (hn : o + n ≤ cs.size) : w.there g o n := fun j hj => ⟨by rw [h.cell, Array.getElem?_eq_getElem (by omega)]; rfl, h.frozen _⟩
theorem range_sub {w : World} {g o i : Nat} {cs ds : List Value} (h : w.rangeAt g o cs) (hd : ∀ j u, ds[j]? = some u → cs[i + j]? = some u) : w.rangeAt g (o + i) ds := fun j u hu => by
  have := h (i + j) u (hd j u hu)
  rwa [show o + (i + j) = o + i + j by omega] at this
abbrev S8 (V : World → Value) (g3 g4 : Nat) (nd ex : Int) (ks : List Int) (w' : World) : Prop := w'.cell? ⟨g3, 1, none⟩ = some (.int .i64 nd) ∧ w'.cell? ⟨g3, 34, none⟩ = some (.int .i64 ex) ∧ w'.rangeAt g3 2 (bts ks) ∧ w'.there g4 2 32 ∧ (w'.cell? ⟨g4, 1, none⟩).isSome = true ∧ w'.cell? ⟨g4, 34, none⟩ = some (V w') ∧ w'.frozen? ⟨g4, 1, none⟩ = false ∧ w'.frozen? ⟨g4, 34, none⟩ = false
theorem s8_drew {V : World → Value} {g3 g4 : Nat} {nd ex : Int} {ks : List Int} {w : World} (hV : ∀ w, (w.cell? ⟨g4, 34, none⟩).isSome = true → w.cell? ⟨g4, 34, none⟩ = some (V w)) (h : S8 V g3 g4 nd ex ks w) : S8 V g3 g4 nd ex ks w.drew :=
  ⟨h.1, h.2.1, h.2.2.1, h.2.2.2.1, h.2.2.2.2.1, hV _ (by show (w.cell? ⟨g4, 34, none⟩).isSome = true; rw [h.2.2.2.2.2.1]; rfl), h.2.2.2.2.2.2.1, h.2.2.2.2.2.2.2⟩
theorem some_set {w : World} {a b : Addr} {v : Value} (h : (w.cell? a).isSome = true) : ((w.setCell b v).cell? a).isSome = true := by
  obtain ⟨u, hu⟩ := Option.isSome_iff_exists.1 h
  by_cases e : b = a
  · subst e; rw [World.cell?_setCell_same _ _ _ hu]; rfl
  · rw [World.cell?_setCell_other _ _ _ _ e, hu]; rfl
theorem s8_set {V : World → Value} {g3 g4 : Nat} {nd ex : Int} {ks : List Int} {w : World} (hV : ∀ w, (w.cell? ⟨g4, 34, none⟩).isSome = true → w.cell? ⟨g4, 34, none⟩ = some (V w)) (hne : g3 ≠ g4) {j : Nat} {v : Value} (h : S8 V g3 g4 nd ex ks w) : S8 V g3 g4 nd ex ks (w.setCell ⟨g4, j, none⟩ v) := by
  obtain ⟨h1, h2, h3, h4, h5, h6, h7, h8⟩ := h
  refine ⟨?_, ?_, range_other h3 (fun h => hne h.symm) _, there_set h4 _ _, some_set h5, hV _ (some_set (by rw [h6]; rfl)), ?_, ?_⟩
  · rw [World.cell?_setCell_other _ _ _ _ (by intro h; injection h with h; exact hne h.symm)]; exact h1
  · rw [World.cell?_setCell_other _ _ _ _ (by intro h; injection h with h; exact hne h.symm)]; exact h2
  · rw [World.frozen?_setCell]; exact h7
  · rw [World.frozen?_setCell]; exact h8
theorem s8_sets {V : World → Value} {g3 g4 : Nat} {nd ex : Int} {ks : List Int} {w : World} (hV : ∀ w, (w.cell? ⟨g4, 34, none⟩).isSome = true → w.cell? ⟨g4, 34, none⟩ = some (V w)) (hne : g3 ≠ g4) {o : Nat} {vs : List Value} (hl : vs.length = 32) (h : S8 V g3 g4 nd ex ks w) : S8 V g3 g4 nd ex ks (w.setCells g4 o vs) := by
  obtain ⟨h1, h2, h3, h4, h5, h6, h7, h8⟩ := h
  refine ⟨?_, ?_, World.rangeAt_setCells_apart h3 _ _ _ (.inl hne), World.there_setCells h4 _ _ _, World.isSome_setCells _ _ _ _ _ h5, hV _ (World.isSome_setCells _ _ _ _ _ (by rw [h6]; rfl)), ?_, ?_⟩
  · rw [World.cell?_setCells_out g4 vs o w _ (fun hb => absurd hb hne)]; exact h1
  · rw [World.cell?_setCells_out g4 vs o w _ (fun hb => absurd hb hne)]; exact h2
  · rw [World.frozen?_setCells]; exact h7
  · rw [World.frozen?_setCells]; exact h8
theorem mod_sets {S : Nat → Prop} {a : World} : ∀ (vs : List Value) (g o : Nat) (b : World), Mod S a b → S g → Mod S a (b.setCells g o vs)
  | [], _, _, _, h, _ => h
  | v :: vs, g, o, b, h, hg => by
    rw [World.setCells]
    exact mod_sets vs g (o + 1) _ (h.setCell (p := ⟨g, o, none⟩) (.inl hg) v) hg
theorem own_mod3 (w : World) (g : Nat) (u v : Value) (vs : List Value) : Mod (fun j => j = g) w.drew (((w.drew.setCell ⟨g, 1, none⟩ u).setCells g 2 vs).setCell ⟨g, 34, none⟩ v) :=
  (mod_sets vs g 2 _ ((Mod.refl (fun j => j = g) w.drew).setCell (p := ⟨g, 1, none⟩) (.inl rfl) u) rfl).setCell (p := ⟨g, 34, none⟩) (.inl rfl) v
theorem own12 (kd nd ex : Int) (ks : List Int) (h : ks.length = 32) : (⟨kd, nd, ks, ex, ByteArray.empty, 0⟩ : Ox).L = ((((Ox.zero kd).L.set 1 (.int .i64 nd)).take 2 ++ (bts ks ++ ((Ox.zero kd).L.set 1 (.int .i64 nd)).drop (2 + 32))).set 34 (.int .i64 ex)) := by
  have hl : (bts ks).length = 32 := by simp [bts, h]
  have e1 : ((Ox.zero kd).L.set 1 (.int .i64 nd)).take 2 = [.int .i64 kd, .int .i64 nd] := rfl
  have e2 : ((Ox.zero kd).L.set 1 (.int .i64 nd)).drop (2 + 32) = [.int .i64 0, .string ByteArray.empty, .int .i64 0] := rfl
  rw [e1, e2]
  simp only [Ox.L, List.cons_append, List.nil_append]
  rw [show (34 : Nat) = 32 + 1 + 1 from rfl, List.set_cons_succ, List.set_cons_succ, List.set_append_right _ _ (by omega), hl]
  rfl
def CmMid (w : World) (g3 g4 : Nat) (c : Co) (wx : World) : Prop := Below w.heap.size w wx ∧ wx.rangeAt w.heap.size 0 c.L ∧ wx.rangeAt g3 0 c.o.L ∧ wx.rangeAt g4 0 c.o.own.L
theorem CmMid.mod {w wa wb : World} {g3 g4 : Nat} {c : Co} (hb : Below w.heap.size w wa) (h1 : wa.rangeAt w.heap.size 0 c.L) (h3 : wa.rangeAt g3 0 c.o.L) (hg : w.heap.size < g3) (hg4 : g3 < g4) (hm : Mod (fun j => j = g4) wa wb) (h4 : wb.rangeAt g4 0 c.o.own.L) : CmMid w g3 g4 c wb :=
  ⟨Bm hb hm (fun i hi => by omega), fun j u hu => hm.cell (h1 j u hu) (by show ¬ w.heap.size = g4; omega), fun j u hu => hm.cell (h3 j u hu) (by show ¬ g3 = g4; omega), h4⟩
set_option maxHeartbeats 4000000 in
theorem cmay_any (c : Co) (w : World) (hk : c.o.ks.length = 32) :
    Calls Try.prog 42 #[c.v] w fun e w' => e = .returned (.bool (cmB c)) ∧ Below w.heap.size w w' := by
  have HG := Lib.hid (Blk.new w 36 c.L.toArray)
  obtain ⟨x0, x1, hro⟩ := co_op (blk_range HG.out)
  have HRO := Lib.hid hro
  have HK := Lib.hid hk
  clear hro hk
  go_enter Try.func42, Try.ntmps42
  go_upto_block 0 with (first
    | (refine step_load34 rfl (.tmp 5) rfl w.heap.size 2 rfl c.o HK.out HRO.out ?_)
    | (refine step_store34 rfl (.tmp 3) (.tmp 6) rfl (w.heap.size + 1) rfl c.o HK.out rfl _ (Blk.new1 _ _ _ _) rfl ?_; intro w2 hb2 hm2 hs2; have HS2 := Lib.hid (show w2.heap.size = w.heap.size + 1 + 1 by rw [hs2]; simp); have HB2 := Lib.hid hb2; have HM2 := Lib.hid hm2; have y0 : w2.cell? ⟨w.heap.size + 1, 0, none⟩ = some (.int .i64 c.o.kd) := hb2.cell 0; have hlt2 : w.heap.size + 1 < w2.heap.size := hb2.lt; clear hs2 hb2 hm2)
    | (refine step_store34 rfl (.tmp 4) (.tmp 9) rfl w2.heap.size rfl (Ox.zero c.o.kd) z32_len rfl _ (Blk.new _ _ _) rfl ?_; intro w3 hb3 hm3 hs3; have HB3 := Lib.hid hb3; have HM3 := Lib.hid hm3; have z0 : w3.cell? ⟨w.heap.size + 1, 0, none⟩ = some (.int .i64 c.o.kd) := ((hm3.cell (p := ⟨w.heap.size + 1, 0, none⟩) (by rw [World.cell?_alloc_lt _ _ _ hlt2]; exact y0) (by show ¬ w.heap.size + 1 = w2.heap.size; omega))); clear hs3 hb3 hm3)
    | fail)
  obtain ⟨g4, hg4⟩ : ∃ g4, g4 = w2.heap.size := ⟨_, rfl⟩
  rw [← hg4] at HB3 HM3 hlt2 ⊢
  have HB1 := Lib.hid (show Below w.heap.size w w3 from Bm (Ba (Bm (Ba (Ba (B0 w) _) _) HM2.out (fun i hi => by omega)) _) HM3.out (fun i hi => by omega))
  have hr3 : w3.rangeAt (w.heap.size + 1) 0 c.o.L := fun j u hu => HM3.out.cell (World.rangeAt_alloc (blk_range HB2.out) _ j u hu) (by show ¬ w.heap.size + 1 = g4; omega)
  have hr1 : w3.rangeAt w.heap.size 0 c.L := fun j u hu => HM3.out.cell (World.rangeAt_alloc (show w2.rangeAt w.heap.size 0 c.L from fun j u hu => HM2.out.cell (World.rangeAt_alloc (blk_range HG.out) _ j u hu) (by show ¬ w.heap.size = w.heap.size + 1; omega)) _ j u hu) (by show ¬ w.heap.size = g4; omega)
  have HR3 := Lib.hid hr3
  have HR1 := Lib.hid hr1
  have HG4 := Lib.hid hg4
  clear hr3 hr1 hg4 y0 HM2 HM3 HB2 HS2
  go_cut [2] from 12 to 38 (fun v wx => v = .bool false ∧ CmMid w (w.heap.size + 1) g4 c wx)
  case first =>
    obtain ⟨o0, o1, ok, o34, o35, o36⟩ := ox_cells HR3.out HK.out
    simp only [Nat.zero_add] at o0 o1 ok o34 o35 o36
    have hb := HB3.out
    have f1 := hb.frozen 1
    have f35 := hb.frozen 35
    have f36 := hb.frozen 36
    have z1 : w3.cell? ⟨g4, 1, none⟩ = some (.int .i64 0) := hb.cell 1
    have z35 : w3.cell? ⟨g4, 35, none⟩ = some (.string ByteArray.empty) := hb.cell 35
    have z36 : w3.cell? ⟨g4, 36, none⟩ = some (.int .i64 0) := hb.cell 36
    have l4 := hb.lt
    have hmm : ∀ (j : Nat) (v : Value), Mod (fun j => j = g4) w3 (w3.setCell ⟨g4, j, none⟩ v) := fun j v => (Mod.refl (fun j => j = g4) w3).setCell (p := ⟨g4, j, none⟩) (.inl rfl) v
    have HMM := Lib.hid hmm
    have HZR := Lib.hid (blk_range hb)
    clear hb hmm
    by_cases k3 : c.o.kd = 3
    · have e1 : (c.o.kd == 1) = false := by simp [k3]
      have e2 : (c.o.kd == 2) = false := by simp [k3]
      have e3 : (c.o.kd == 3) = true := by simp [k3]
      have HK3 := Lib.hid k3
      clear k3
      go_wp2_with fail
      go_meet
      refine ⟨rfl, CmMid.mod HB1.out HR1.out HR3.out (by omega) (by omega) (HMM.out 1 _) ?_⟩
      have h := range_set (i := 1) HZR.out (by rw [Ox.len z32_len]; omega) (.int .i64 c.o.nd)
      rw [Nat.zero_add] at h
      have e : c.o.own.L = (Ox.zero c.o.kd).L.set 1 (.int .i64 c.o.nd) := by
        have k3 := HK3.out
        unfold Ox.own
        rw [if_neg (by omega), if_pos k3]
        rfl
      rw [e]
      exact h
    · by_cases k4 : c.o.kd = 4
      · have e4 : (c.o.kd == 4) = true := by simp [k4]
        have e1 : (c.o.kd == 1) = false := by simp [k4]
        have e2 : (c.o.kd == 2) = false := by simp [k4]
        have e3 : (c.o.kd == 3) = false := by simp [k4]
        have HK4 := Lib.hid k4
        clear k3 k4
        go_wp2_with fail
        go_meet
        refine ⟨rfl, CmMid.mod HB1.out HR1.out HR3.out (by omega) (by omega) (HMM.out 35 _) ?_⟩
        have h := range_set (i := 35) HZR.out (by rw [Ox.len z32_len]; omega) (.string c.o.tx)
        rw [Nat.zero_add] at h
        have e : c.o.own.L = (Ox.zero c.o.kd).L.set 35 (.string c.o.tx) := by
          have kk := HK4.out
          unfold Ox.own
          rw [if_neg (by omega), if_neg (by omega), if_pos kk]
          rfl
        rw [e]
        exact h
      · by_cases k5 : c.o.kd = 5
        · have e5 : (c.o.kd == 5) = true := by simp [k5]
          have e1 : (c.o.kd == 1) = false := by simp [k5]
          have e2 : (c.o.kd == 2) = false := by simp [k5]
          have e3 : (c.o.kd == 3) = false := by simp [k5]
          have e4 : (c.o.kd == 4) = false := by simp [k5]
          have HK5 := Lib.hid k5
          clear k3 k5 k4
          go_wp2_with fail
          go_meet
          refine ⟨rfl, CmMid.mod HB1.out HR1.out HR3.out (by omega) (by omega) (HMM.out 36 _) ?_⟩
          have h := range_set (i := 36) HZR.out (by rw [Ox.len z32_len]; omega) (.int .i64 c.o.ti)
          rw [Nat.zero_add] at h
          have e : c.o.own.L = (Ox.zero c.o.kd).L.set 36 (.int .i64 c.o.ti) := by
            have kk := HK5.out
            unfold Ox.own
            rw [if_neg (by omega), if_neg (by omega), if_neg (by omega), if_pos kk]
            rfl
          rw [e]
          exact h
        · by_cases k12 : c.o.kd = 1 ∨ c.o.kd = 2
          · have hkl : (bts c.o.ks).length = 32 := by have := HK.out; simp [bts, this]
            have hth := there_of_blk HB3.out (o := 2) (n := 32) (by have := Ox.len (o := Ox.zero c.o.kd) z32_len; simp [this])
            have z34 : w3.cell? ⟨g4, 34, none⟩ = some (.int .i64 0) := HB3.out.cell 34
            have f34 := HB3.out.frozen 34
            have hu := Try.underlying32
            have hi : (Try.prog.info? 32).map (·.size) = some (bts c.o.ks).length := by rw [info32, hkl]
            have h1 : ∀ v ∈ bts c.o.ks, v.oneCell' = true := bts_one _
            have hne : w.heap.size + 1 ≠ g4 := by omega
            obtain ⟨V, hV⟩ : ∃ V : World → Value, ∀ w, (w.cell? ⟨g4, 34, none⟩).isSome = true → w.cell? ⟨g4, 34, none⟩ = some (V w) := ⟨fun w => (w.cell? ⟨g4, 34, none⟩).getD undef, fun w h => by obtain ⟨u, hu⟩ := Option.isSome_iff_exists.1 h; simp [hu]⟩
            have h8 : S8 V (w.heap.size + 1) g4 c.o.nd c.o.ex c.o.ks w3 := ⟨o1, o34, ok, hth, by rw [z1]; rfl, hV _ (by rw [z34]; rfl), f1, f34⟩
            have hwr : CmMid w (w.heap.size + 1) g4 c (((w3.drew.setCell ⟨g4, 1, none⟩ (.int .i64 c.o.nd)).setCells g4 2 (bts c.o.ks)).setCell ⟨g4, 34, none⟩ (.int .i64 c.o.ex)) := by
              refine CmMid.mod (Bd HB1.out) HR1.out HR3.out (by omega) (by omega) (own_mod3 _ _ _ _ _) ?_
              have e : c.o.own.L = ((((Ox.zero c.o.kd).L.set 1 (.int .i64 c.o.nd)).take 2 ++ (bts c.o.ks ++ ((Ox.zero c.o.kd).L.set 1 (.int .i64 c.o.nd)).drop (2 + (bts c.o.ks).length))).set 34 (.int .i64 c.o.ex)) := by
                unfold Ox.own
                rw [if_pos k12, hkl]
                exact own12 _ _ _ _ HK.out
              rw [e]
              have q1 := range_set (w := w3.drew) (i := 1) (show w3.drew.rangeAt g4 0 (Ox.zero c.o.kd).L from HZR.out) (by rw [Ox.len (o := Ox.zero c.o.kd) z32_len]; omega) (.int .i64 c.o.nd)
              have q2 := range_sets (i := 2) (vs := bts c.o.ks) q1 (by rw [List.length_set, Ox.len (o := Ox.zero c.o.kd) z32_len, hkl]; omega)
              have q3 := range_set (i := 34) q2 (by simp [Ox.len (o := Ox.zero c.o.kd) z32_len, hkl]) (.int .i64 c.o.ex)
              simp only [Nat.zero_add] at q3
              exact q3
            have HWR := Lib.hid hwr
            have HV := Lib.hid hV
            clear hwr hV z34
            rcases k12 with k1 | k2
            · have e1 : (c.o.kd == 1) = true := by simp [k1]
              clear k1 k3 k4 k5
              go_wp2_with fail
              go_region_held3 (fun w' => w'.cell? ⟨w.heap.size + 1, 1, none⟩ = some (.int .i64 c.o.nd) ∧ w'.cell? ⟨w.heap.size + 1, 34, none⟩ = some (.int .i64 c.o.ex) ∧ w'.rangeAt (w.heap.size + 1) 2 (bts c.o.ks) ∧ w'.there g4 2 32 ∧ (w'.cell? ⟨g4, 1, none⟩).isSome = true ∧ w'.cell? ⟨g4, 34, none⟩ = some (V w') ∧ w'.frozen? ⟨g4, 1, none⟩ = false ∧ w'.frozen? ⟨g4, 34, none⟩ = false) (first | exact s8_drew HV.out (by assumption) | exact s8_set HV.out hne (by assumption) | exact s8_sets HV.out hne hkl (by assumption)) (fail)
              go_wp2_with fail
              go_meet
              exact ⟨rfl, HWR.out⟩
            · have e1 : (c.o.kd == 1) = false := by simp [k2]
              have e2 : (c.o.kd == 2) = true := by simp [k2]
              clear k2 k3 k4 k5
              go_wp2_with fail
              go_region_held3 (fun w' => w'.cell? ⟨w.heap.size + 1, 1, none⟩ = some (.int .i64 c.o.nd) ∧ w'.cell? ⟨w.heap.size + 1, 34, none⟩ = some (.int .i64 c.o.ex) ∧ w'.rangeAt (w.heap.size + 1) 2 (bts c.o.ks) ∧ w'.there g4 2 32 ∧ (w'.cell? ⟨g4, 1, none⟩).isSome = true ∧ w'.cell? ⟨g4, 34, none⟩ = some (V w') ∧ w'.frozen? ⟨g4, 1, none⟩ = false ∧ w'.frozen? ⟨g4, 34, none⟩ = false) (first | exact s8_drew HV.out (by assumption) | exact s8_set HV.out hne (by assumption) | exact s8_sets HV.out hne hkl (by assumption)) (fail)
              go_wp2_with fail
              go_meet
              exact ⟨rfl, HWR.out⟩
          · have e1 : (c.o.kd == 1) = false := by simp; omega
            have e2 : (c.o.kd == 2) = false := by simp; omega
            have e3 : (c.o.kd == 3) = false := by simpa using k3
            have e4 : (c.o.kd == 4) = false := by simpa using k4
            have e5 : (c.o.kd == 5) = false := by simpa using k5
            have HKK := Lib.hid (And.intro k12 (And.intro k3 (And.intro k4 k5)))
            clear k12 k3 k4 k5
            go_wp2_with fail
            go_meet
            refine ⟨rfl, CmMid.mod HB1.out HR1.out HR3.out (by omega) (by omega) (Mod.refl _ _) ?_⟩
            have e : c.o.own.L = (Ox.zero c.o.kd).L := by
              obtain ⟨k1, k2, k3, k4⟩ := HKK.out
              unfold Ox.own
              rw [if_neg k1, if_neg k2, if_neg k3, if_neg k4]
            rw [e]
            exact HZR.out
  case rest =>
    obtain ⟨rfl, hb, hr1, hr3, hr4⟩ := hcut
    obtain ⟨c0, c1, _⟩ := co_op hr1
    obtain ⟨o0, o1, _, o34, o35, o36⟩ := ox_cells hr3 HK.out
    simp only [Nat.zero_add] at o0 o1 o34 o35 o36
    obtain ⟨s, hs⟩ : ∃ s, s = c.s := ⟨_, rfl⟩
    obtain ⟨q, hq⟩ : ∃ q, q = c.q := ⟨_, rfl⟩
    obtain ⟨kd, hkd⟩ : ∃ kd, kd = c.o.kd := ⟨_, rfl⟩
    obtain ⟨nd, hnd⟩ : ∃ nd, nd = c.o.nd := ⟨_, rfl⟩
    obtain ⟨ex, hex⟩ : ∃ ex, ex = c.o.ex := ⟨_, rfl⟩
    obtain ⟨ti, hti⟩ : ∃ ti, ti = c.o.ti := ⟨_, rfl⟩
    have HCM : Hid (cmB c = (wiB s 1 8 && (wiB q 1 9007199254740991 && (wiB kd 1 5 && (oxB c.o c.o.own && (wiB nd 0 255 && (nuB ex && (nuB ti && decide ((c.o.tx.size : Int) ≤ 1024))))))))) := Lib.hid (by rw [hs, hq, hkd, hnd, hex, hti]; rfl)
    rw [← hs] at c0
    rw [← hq] at c1
    rw [← hkd] at o0
    rw [← hnd] at o1
    rw [← hex] at o34
    rw [← hti] at o36
    have HB := Lib.hid hb
    have HR3 := Lib.hid hr3
    have HR4 := Lib.hid hr4
    have HOK := Lib.hid (Ox.own_ks HK.out)
    clear hb hr1 hr3 hr4 hs hq hkd hnd hex hti
    cases h1 : wiB s 1 8
    · have H1 := Lib.hid h1
      clear h1
      go_wp2_with (first | (go_at_call_of 32 s; refine (within_is H1.out _).mono ?_; rintro e w' ⟨rfl, rfl⟩) | fail)
      go_ret
      exact ⟨ret_bool (by rw [HCM.out, H1.out]; rfl), HB.out⟩
    · have H1 := Lib.hid h1
      clear h1
      cases h2 : wiB q 1 9007199254740991
      · have H2 := Lib.hid h2
        clear h2
        go_wp2_with (first | (go_at_call_of 32 s; refine (within_is H1.out _).mono ?_; rintro e w' ⟨rfl, rfl⟩) | (go_at_call_of 32 q; refine (within_is H2.out _).mono ?_; rintro e w' ⟨rfl, rfl⟩) | fail)
        go_ret
        exact ⟨ret_bool (by rw [HCM.out, H1.out, H2.out]; rfl), HB.out⟩
      · have H2 := Lib.hid h2
        clear h2
        cases h3 : wiB kd 1 5
        · have H3 := Lib.hid h3
          clear h3
          go_wp2_with (first | (go_at_call_of 32 s; refine (within_is H1.out _).mono ?_; rintro e w' ⟨rfl, rfl⟩) | (go_at_call_of 32 q; refine (within_is H2.out _).mono ?_; rintro e w' ⟨rfl, rfl⟩) | (go_at_call_of 32 kd; refine (within_is H3.out _).mono ?_; rintro e w' ⟨rfl, rfl⟩) | fail)
          go_ret
          exact ⟨ret_bool (by rw [HCM.out, H1.out, H2.out, H3.out]; rfl), HB.out⟩
        · have H3 := Lib.hid h3
          clear h3
          cases h4 : oxB c.o c.o.own
          · have H4 := Lib.hid h4
            clear h4
            go_wp2_with (first | (go_at_call_of 32 s; refine (within_is H1.out _).mono ?_; rintro e w' ⟨rfl, rfl⟩) | (go_at_call_of 32 q; refine (within_is H2.out _).mono ?_; rintro e w' ⟨rfl, rfl⟩) | (go_at_call_of 32 kd; refine (within_is H3.out _).mono ?_; rintro e w' ⟨rfl, rfl⟩) | (refine step_load34 (by first | rfl | simp [Region.wanted, yielded]) (.tmp 3) rfl (w.heap.size + 1) 0 rfl c.o HK.out HR3.out ?_) | (refine step_load34 (by first | rfl | simp [Region.wanted, yielded]) (.tmp 4) rfl g4 0 rfl c.o.own HOK.out HR4.out ?_) | (refine step_eq34 (by first | rfl | simp [Region.wanted, yielded]) (.tmp 53) (.tmp 54) rfl c.o c.o.own rfl rfl HK.out HOK.out _ H4.out ?_) | fail)
            go_ret
            exact ⟨ret_bool (by rw [HCM.out, H1.out, H2.out, H3.out, H4.out]; rfl), HB.out⟩
          · have H4 := Lib.hid h4
            clear h4
            cases h5 : wiB nd 0 255
            · have H5 := Lib.hid h5
              clear h5
              go_wp2_with (first | (go_at_call_of 32 s; refine (within_is H1.out _).mono ?_; rintro e w' ⟨rfl, rfl⟩) | (go_at_call_of 32 q; refine (within_is H2.out _).mono ?_; rintro e w' ⟨rfl, rfl⟩) | (go_at_call_of 32 kd; refine (within_is H3.out _).mono ?_; rintro e w' ⟨rfl, rfl⟩) | (refine step_load34 (by first | rfl | simp [Region.wanted, yielded]) (.tmp 3) rfl (w.heap.size + 1) 0 rfl c.o HK.out HR3.out ?_) | (refine step_load34 (by first | rfl | simp [Region.wanted, yielded]) (.tmp 4) rfl g4 0 rfl c.o.own HOK.out HR4.out ?_) | (refine step_eq34 (by first | rfl | simp [Region.wanted, yielded]) (.tmp 53) (.tmp 54) rfl c.o c.o.own rfl rfl HK.out HOK.out _ H4.out ?_) | (go_at_call_of 32 nd; refine (within_is H5.out _).mono ?_; rintro e w' ⟨rfl, rfl⟩) | fail)
              go_ret
              exact ⟨ret_bool (by rw [HCM.out, H1.out, H2.out, H3.out, H4.out, H5.out]; rfl), HB.out⟩
            · have H5 := Lib.hid h5
              clear h5
              cases h6 : nuB ex
              · have H6 := Lib.hid h6
                clear h6
                go_wp2_with (first | (go_at_call_of 32 s; refine (within_is H1.out _).mono ?_; rintro e w' ⟨rfl, rfl⟩) | (go_at_call_of 32 q; refine (within_is H2.out _).mono ?_; rintro e w' ⟨rfl, rfl⟩) | (go_at_call_of 32 kd; refine (within_is H3.out _).mono ?_; rintro e w' ⟨rfl, rfl⟩) | (refine step_load34 (by first | rfl | simp [Region.wanted, yielded]) (.tmp 3) rfl (w.heap.size + 1) 0 rfl c.o HK.out HR3.out ?_) | (refine step_load34 (by first | rfl | simp [Region.wanted, yielded]) (.tmp 4) rfl g4 0 rfl c.o.own HOK.out HR4.out ?_) | (refine step_eq34 (by first | rfl | simp [Region.wanted, yielded]) (.tmp 53) (.tmp 54) rfl c.o c.o.own rfl rfl HK.out HOK.out _ H4.out ?_) | (go_at_call_of 32 nd; refine (within_is H5.out _).mono ?_; rintro e w' ⟨rfl, rfl⟩) | (go_at_call_of 33 ex; refine (number_is H6.out _).mono ?_; rintro e w' ⟨rfl, rfl⟩) | fail)
                go_ret
                exact ⟨ret_bool (by rw [HCM.out, H1.out, H2.out, H3.out, H4.out, H5.out, H6.out]; rfl), HB.out⟩
              · have H6 := Lib.hid h6
                clear h6
                cases h7 : nuB ti
                · have H7 := Lib.hid h7
                  clear h7
                  go_wp2_with (first | (go_at_call_of 32 s; refine (within_is H1.out _).mono ?_; rintro e w' ⟨rfl, rfl⟩) | (go_at_call_of 32 q; refine (within_is H2.out _).mono ?_; rintro e w' ⟨rfl, rfl⟩) | (go_at_call_of 32 kd; refine (within_is H3.out _).mono ?_; rintro e w' ⟨rfl, rfl⟩) | (refine step_load34 (by first | rfl | simp [Region.wanted, yielded]) (.tmp 3) rfl (w.heap.size + 1) 0 rfl c.o HK.out HR3.out ?_) | (refine step_load34 (by first | rfl | simp [Region.wanted, yielded]) (.tmp 4) rfl g4 0 rfl c.o.own HOK.out HR4.out ?_) | (refine step_eq34 (by first | rfl | simp [Region.wanted, yielded]) (.tmp 53) (.tmp 54) rfl c.o c.o.own rfl rfl HK.out HOK.out _ H4.out ?_) | (go_at_call_of 32 nd; refine (within_is H5.out _).mono ?_; rintro e w' ⟨rfl, rfl⟩) | (go_at_call_of 33 ex; refine (number_is H6.out _).mono ?_; rintro e w' ⟨rfl, rfl⟩) | (go_at_call_of 33 ti; refine (number_is H7.out _).mono ?_; rintro e w' ⟨rfl, rfl⟩) | fail)
                  go_ret
                  exact ⟨ret_bool (by rw [HCM.out, H1.out, H2.out, H3.out, H4.out, H5.out, H6.out, H7.out]; rfl), HB.out⟩
                · have H7 := Lib.hid h7
                  clear h7
                  cases h8 : decide ((c.o.tx.size : Int) ≤ 1024)
                  · have H8 := Lib.hid h8
                    have hx : ¬ ((c.o.tx.size : Int) ≤ 1024) := by simpa using h8
                    clear h8
                    go_wp2_with (first | (go_at_call_of 32 s; refine (within_is H1.out _).mono ?_; rintro e w' ⟨rfl, rfl⟩) | (go_at_call_of 32 q; refine (within_is H2.out _).mono ?_; rintro e w' ⟨rfl, rfl⟩) | (go_at_call_of 32 kd; refine (within_is H3.out _).mono ?_; rintro e w' ⟨rfl, rfl⟩) | (refine step_load34 (by first | rfl | simp [Region.wanted, yielded]) (.tmp 3) rfl (w.heap.size + 1) 0 rfl c.o HK.out HR3.out ?_) | (refine step_load34 (by first | rfl | simp [Region.wanted, yielded]) (.tmp 4) rfl g4 0 rfl c.o.own HOK.out HR4.out ?_) | (refine step_eq34 (by first | rfl | simp [Region.wanted, yielded]) (.tmp 53) (.tmp 54) rfl c.o c.o.own rfl rfl HK.out HOK.out _ H4.out ?_) | (go_at_call_of 32 nd; refine (within_is H5.out _).mono ?_; rintro e w' ⟨rfl, rfl⟩) | (go_at_call_of 33 ex; refine (number_is H6.out _).mono ?_; rintro e w' ⟨rfl, rfl⟩) | (go_at_call_of 33 ti; refine (number_is H7.out _).mono ?_; rintro e w' ⟨rfl, rfl⟩) | fail)
                    go_ret
                    exact ⟨ret_bool (by rw [HCM.out, H1.out, H2.out, H3.out, H4.out, H5.out, H6.out, H7.out, H8.out]; rfl), HB.out⟩
                  · have H8 := Lib.hid h8
                    have hx : ((c.o.tx.size : Int) ≤ 1024) := by simpa using h8
                    clear h8
                    go_wp2_with (first | (go_at_call_of 32 s; refine (within_is H1.out _).mono ?_; rintro e w' ⟨rfl, rfl⟩) | (go_at_call_of 32 q; refine (within_is H2.out _).mono ?_; rintro e w' ⟨rfl, rfl⟩) | (go_at_call_of 32 kd; refine (within_is H3.out _).mono ?_; rintro e w' ⟨rfl, rfl⟩) | (refine step_load34 (by first | rfl | simp [Region.wanted, yielded]) (.tmp 3) rfl (w.heap.size + 1) 0 rfl c.o HK.out HR3.out ?_) | (refine step_load34 (by first | rfl | simp [Region.wanted, yielded]) (.tmp 4) rfl g4 0 rfl c.o.own HOK.out HR4.out ?_) | (refine step_eq34 (by first | rfl | simp [Region.wanted, yielded]) (.tmp 53) (.tmp 54) rfl c.o c.o.own rfl rfl HK.out HOK.out _ H4.out ?_) | (go_at_call_of 32 nd; refine (within_is H5.out _).mono ?_; rintro e w' ⟨rfl, rfl⟩) | (go_at_call_of 33 ex; refine (number_is H6.out _).mono ?_; rintro e w' ⟨rfl, rfl⟩) | (go_at_call_of 33 ti; refine (number_is H7.out _).mono ?_; rintro e w' ⟨rfl, rfl⟩) | fail)
                    go_ret
                    exact ⟨ret_bool (by rw [HCM.out, H1.out, H2.out, H3.out, H4.out, H5.out, H6.out, H7.out, H8.out]; rfl), HB.out⟩
end Go.Proofs.Ytnphnaggamfoiaa
