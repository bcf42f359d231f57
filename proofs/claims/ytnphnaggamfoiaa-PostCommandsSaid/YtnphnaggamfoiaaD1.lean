/- The coder that writes: its methods, called by themselves. -/
import Derived.Test.YtnphnaggamfoiaaW11
import Derived.Test.YtnphnaggamfoiaaC0
import Derived.Deep.RegionHeld3
namespace Go.Proofs.Ytnphnaggamfoiaa
open Go.RowKit
set_option maxRecDepth 20000
set_option linter.unusedVariables false
set_option linter.unusedSimpArgs false

theorem wputL_len (xs : List Int) (v size : Int) : (Wr.putL xs v size).length ≤ xs.length + 8 := by
  unfold Wr.putL
  split
  · rename_i h
    unfold Wr.putE at h
    split at h
    · omega
    · rw [List.length_append, Wr.be_length]; omega
  · omega
theorem woctL_len (xs bs : List Int) : (Wr.octL xs bs).length ≤ xs.length + bs.length + 2 := by
  unfold Wr.octL
  split
  · omega
  · simp [Wr.be_length]; omega
abbrev wv (p : Nat) : Value := .agg #[.pointer (some ⟨p, 0, none⟩)]
/-- A block that stays as it is while the writer works: it was there first, or it is in K. -/
def Stay (B : Nat) (K : Nat → Prop) (g : Nat) : Prop := g < B ∨ K g
theorem Stay.not {B : Nat} {K : Nat → Prop} {g : Nat} (h : Stay B K g) : ¬ Wr.Stays B K g := fun hs => h.elim (fun h => by have := hs.1; omega) hs.2
theorem Stay.more {B : Nat} {K L : Nat → Prop} {g : Nat} (h : Stay B K g) : ¬ Wr.Stays B (fun i => K i ∨ L i) g := fun hs => h.elim (fun h => by have := hs.1; omega) (fun h => hs.2 (.inl h))
theorem wr_one {B : Nat} {K : Nat → Prop} {p : Nat} {xs : List Int} {w : World} (h : Wr.WrIn B K w p xs) (o : Obj) : Wr.WrIn B (fun i => K i ∨ i = w.heap.size) (w.alloc o) p xs :=
  h.keep (Ba (B0 w) _) (fun i hi => hi.elim .inr (fun e => .inl (by subst e; simp)))
theorem wr_back {B : Nat} {K L : Nat → Prop} {p : Nat} {xs : List Int} {w : World} (h : Wr.WrIn B (fun i => K i ∨ L i) w p xs) : Wr.WrIn B K w p xs := h.keep (B0 w) (fun i hi => .inr (.inl hi))
theorem stays_back {B : Nat} {K L : Nat → Prop} {w w' : World} (h : Mod (Wr.Stays B (fun i => K i ∨ L i)) w w') : Mod (Wr.Stays B K) w w' := h.mono (fun i hi => ⟨hi.1, fun hk => hi.2 (.inl hk)⟩)

theorem did_box {B : Nat} {K : Nat → Prop} {p : Nat} {xs : List Int} {w w1 : World} {o : Obj} {n : Nat} (hw : Wr.WrIn B (fun i => K i ∨ i = w.heap.size) w1 p xs) (hm : Mod (Wr.Stays B (fun i => K i ∨ i = w.heap.size)) ((w.alloc o).drewN n) w1) : Wr.WDidIn B K p xs (.tuple #[]) w (.returned (.tuple #[])) w1 :=
  ⟨rfl, wr_back hw, (Mod.of_below (S := Wr.Stays B K) (BdN (Ba (B0 w) o) n)).trans (stays_back hm) (fun i hi => .inl hi)⟩
theorem wnum_any {B : Nat} {K : Nat → Prop} {p : Nat} {xs : List Int} (g o : Nat) (t : TypeId) (cs : Array Value) (x n : Int) (hx : x < 9223372036854775808) (w : World) (h : Wr.WrIn B K w p xs) (hb : Blk w g t cs) (hs : Stay B K g) (hc : cs[o]? = some (.int .i64 x)) (hl : xs.length + 8 ≤ 140737488355328) :
    Calls Try.prog 44 #[wv p, .pointer (some ⟨g, o, none⟩), .int .i64 n] w (Wr.WDidIn B K p (Wr.putL xs x n) (.tuple #[]) w) := by
  have H := Lib.hid (wr_one h (.cells #[.pointer (some ⟨p, 0, none⟩)] 66))
  have HC := Lib.hid (And.intro hb (And.intro hs hc))
  have y0 := (hb.cell o).trans hc
  have lg := hb.lt
  clear h hb hc hs
  go_enter Try.func44, Try.ntmps44
  go_wp2_with fail
  go_region_held3 (fun w' => w'.cell? ⟨w.heap.size, 0, none⟩ = some (.pointer (some ⟨p, 0, none⟩)) ∧ w'.cell? ⟨g, o, none⟩ = some (.int .i64 x))
    (first
      | exact ⟨(Blk.new w 66 _).cell 0, (((HC.out.1.alloc _).cell o).trans HC.out.2.2)⟩
      | exact ⟨((Blk.new w 66 _).kept hm (fun h => h.2 (.inr rfl))).cell 0, ((((HC.out.1.alloc _).kept hm (HC.out.2.1.more)).cell o).trans HC.out.2.2)⟩
      | exact ⟨((Blk.new w 66 _).drew.kept hm (fun h => h.2 (.inr rfl))).cell 0, ((((HC.out.1.alloc _).drew.kept hm (HC.out.2.1.more)).cell o).trans HC.out.2.2)⟩
      | go_keep)
    (first | (go_at_call 67; refine (Wr.put_in x n hx _ (H.out.below (by repeat (first | exact B0 _ | apply Bs | apply Bd | apply BdN | apply Ba))) hl).mono ?_; rintro e w1 ⟨rfl, hw, hm⟩))
  refine bodyPost_ret (v := .tuple #[]) (by simp [results, Try.results44, go_sem]) rfl ?_
  exact did_box hw hm

theorem woct_any {B : Nat} {K T : Nat → Prop} {p : Nat} {xs : List Int} (g o : Nat) (t : TypeId) (cs : Array Value) (A : Option Addr) (c : Nat) (bs : List Int) (most : Int) (w : World) (h : Wr.WrIn B K w p xs) (hb : Blk w g t cs) (hs : Stay B K g) (hc : cs[o]? = some (.slice A bs.length c)) (hr : Rd w T 1 (.slice A bs.length c) bs.length (bts bs)) (hT : ∀ i, T i → i < w.heap.size ∧ (i < B ∨ K i)) (hl : xs.length + bs.length + 8 ≤ 140737488355328) :
    Calls Try.prog 104 #[wv p, .pointer (some ⟨g, o, none⟩), .int .i64 most] w (Wr.WDidIn B K p (Wr.octL xs bs) (.tuple #[]) w) := by
  have H := Lib.hid (wr_one h (.cells #[.pointer (some ⟨p, 0, none⟩)] 66))
  have HC := Lib.hid (And.intro hb (And.intro hs hc))
  have y0 := (hb.cell o).trans hc
  have lg := hb.lt
  have HR := Lib.hid (And.intro hr hT)
  clear hr hT
  clear h hb hc hs
  go_enter Try.func104, Try.ntmps104
  go_wp2_with fail
  go_region_held3 (fun w' => w'.cell? ⟨w.heap.size, 0, none⟩ = some (.pointer (some ⟨p, 0, none⟩)) ∧ w'.cell? ⟨g, o, none⟩ = some (.slice A bs.length c))
    (first
      | exact ⟨(Blk.new w 66 _).cell 0, (((HC.out.1.alloc _).cell o).trans HC.out.2.2)⟩
      | exact ⟨((Blk.new w 66 _).kept hm (fun h => h.2 (.inr rfl))).cell 0, ((((HC.out.1.alloc _).kept hm (HC.out.2.1.more)).cell o).trans HC.out.2.2)⟩
      | exact ⟨((Blk.new w 66 _).drew.kept hm (fun h => h.2 (.inr rfl))).cell 0, ((((HC.out.1.alloc _).drew.kept hm (HC.out.2.1.more)).cell o).trans HC.out.2.2)⟩
      | go_keep)
    (first | (go_at_call 106; refine (Wr.octets_in bs A c _ (H.out.below (by repeat (first | exact B0 _ | apply Bs | apply Bd | apply BdN | apply Ba))) (HR.out.1.below (by repeat (first | exact B0 _ | apply Bs | apply Bd | apply BdN | apply Ba)) (fun i hi => (HR.out.2 i hi).1)) (fun i hi => ⟨Nat.lt_of_lt_of_le (HR.out.2 i hi).1 (by simp), (HR.out.2 i hi).2.imp id .inl⟩) hl).mono ?_; rintro e w1 ⟨rfl, hw, hm⟩))
  refine bodyPost_ret (v := .tuple #[]) (by simp [results, Try.results104, go_sem]) rfl ?_
  exact did_box hw hm

theorem wmany_any {B : Nat} {K : Nat → Prop} {p : Nat} {xs : List Int} (g : Nat) (t : TypeId) (cs : Array Value) (A : Option Addr) (n c : Nat) (hn : n ≤ 140737488351232) (w : World) (h : Wr.WrIn B K w p xs) (hb : Blk w g t cs) (hs : Stay B K g) (hc : cs[9]? = some (.slice A n c)) (hl : xs.length + 8 ≤ 140737488355328) :
    Calls Try.prog 103 #[wv p, .pointer (some ⟨g, 0, none⟩)] w (Wr.WDidIn B K p (Wr.putL xs (n : Int) 1) (.tuple #[]) w) := by
  have H := Lib.hid (wr_one h (.cells #[.pointer (some ⟨p, 0, none⟩)] 66))
  have HC := Lib.hid (And.intro hb (And.intro hs hc))
  have y0 := (hb.cell 9).trans hc
  have lg := hb.lt
  skip
  clear h hb hc hs
  go_enter Try.func103, Try.ntmps103
  go_wp2_with fail
  go_region_held3 (fun w' => w'.cell? ⟨w.heap.size, 0, none⟩ = some (.pointer (some ⟨p, 0, none⟩)) ∧ w'.cell? ⟨g, 9, none⟩ = some (.slice A n c))
    (first
      | exact ⟨(Blk.new w 66 _).cell 0, (((HC.out.1.alloc _).cell 9).trans HC.out.2.2)⟩
      | exact ⟨((Blk.new w 66 _).kept hm (fun h => h.2 (.inr rfl))).cell 0, ((((HC.out.1.alloc _).kept hm (HC.out.2.1.more)).cell 9).trans HC.out.2.2)⟩
      | exact ⟨((Blk.new w 66 _).drew.kept hm (fun h => h.2 (.inr rfl))).cell 0, ((((HC.out.1.alloc _).drew.kept hm (HC.out.2.1.more)).cell 9).trans HC.out.2.2)⟩
      | go_keep)
    (first | (go_at_call 67; refine (Wr.put_in (n : Int) 1 (by omega) _ (H.out.below (by repeat (first | exact B0 _ | apply Bs | apply Bd | apply BdN | apply Ba))) hl).mono ?_; rintro e w1 ⟨rfl, hw, hm⟩))
  refine bodyPost_ret (v := .tuple #[]) (by simp [results, Try.results103, go_sem]) rfl ?_
  exact did_box hw hm

theorem wflag_any {B : Nat} {K : Nat → Prop} {p : Nat} {xs : List Int} (g o : Nat) (t : TypeId) (cs : Array Value) (b : Bool) (w : World) (h : Wr.WrIn B K w p xs) (hb : Blk w g t cs) (hs : Stay B K g) (hc : cs[o]? = some (.bool b)) (hl : xs.length + 8 ≤ 140737488355328) :
    Calls Try.prog 102 #[wv p, .pointer (some ⟨g, o, none⟩)] w (Wr.WDidIn B K p (Wr.putL xs (if b then 1 else 0) 1) (.tuple #[]) w) := by
  have H := Lib.hid (wr_one h (.cells #[.pointer (some ⟨p, 0, none⟩)] 66))
  have y0 := (hb.cell o).trans hc
  have lg := hb.lt
  clear h hb hc hs
  cases b
  all_goals
    go_enter Try.func102, Try.ntmps102
    go_wp2_with fail
    refine (Wr.put_in _ 1 (by omega) _ H.out hl).mono ?_
    rintro e w1 ⟨rfl, hw, hm⟩
    go_wp2_with fail
    refine bodyPost_ret (v := .tuple #[]) (by simp [results, Try.results102, go_sem]) rfl ?_
    exact did_box (n := 0) hw hm
end Go.Proofs.Ytnphnaggamfoiaa
