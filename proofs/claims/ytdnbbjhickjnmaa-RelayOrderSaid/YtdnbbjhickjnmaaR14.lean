/- Lists of bytes, one for each node, beside a relay; a []int argument. -/
import Derived.Test.YtdnbbjhickjnmaaR10
import Derived.Test.YtdnbbjhickjnmaaArgs
namespace Go.Proofs.Ytdnbbjhickjnmaa
open Go.RowKit Go.WideShapes Go.ChangeShapes
set_option maxRecDepth 20000
set_option linter.unusedVariables false
set_option linter.unusedSimpArgs false

theorem icells3 : Try.prog.cellsOf 3 = 1 := by kernel_rfl
/-- A []int argument, as it reads. -/
structure IntsRd (W : World) (A : Option Addr) (c : Nat) (l : List Int) : Prop where
  cap : l.length ≤ c
  most : c ≤ 9223372036854775807
  at_ : ∀ i (hi : i < l.length), ∃ g o, A = some ⟨g, o, none⟩ ∧ g < W.heap.size ∧ W.cell? ⟨g, o + i, none⟩ = some (.int .i64 l[i])
theorem open_intlist {H : Type} {enc : TypeId × Value → H} {W : World} {base : Nat} {sp : Nat → Bool} {held : Bool} {v : Value} {d : DataW H} {p : List MemPlace} (hv : Value.okWide Try.prog W .any base 41 v) (ht : DataW.Trod enc Try.prog W 0 sp held 41 v d p) :
    ∃ A c l, v = .slice A l.length c ∧ IntsRd W A c l := by
  obtain ⟨a1, len1, cap1, rfl⟩ := okWide_slice Try.underlying41 hv
  obtain ⟨fuel, hf⟩ := ht
  rcases Go.ChangeShapes.open_ints Try.underlying41 Try.underlying3 icells3 hf with ⟨hcs, hx⟩ | ⟨a, len, cap, zs, hcs, _, hl, hm, hzl, hx, hcell, hwz⟩
  · simp [Value.cells] at hcs
    obtain ⟨rfl, rfl, rfl⟩ := hcs
    exact ⟨none, 0, [], rfl, ⟨by simp, by omega, fun i hi => absurd hi (by simp)⟩⟩
  · simp [Value.cells] at hcs
    obtain ⟨rfl, rfl, rfl⟩ := hcs
    unfold maxLen at hm
    have hlz : len1 ≤ zs.length := by rw [hzl]; split <;> omega
    have hlen : (zs.take len1).length = len1 := by simp; omega
    refine ⟨some a, cap1, zs.take len1, by rw [hlen], ⟨by rw [hlen]; exact hl, by omega, fun i hi => ?_⟩⟩
    rw [hlen] at hi
    have h0 := cell_spot (hcell i (by omega))
    have hc := hcell i (by omega)
    obtain ⟨g, o, s⟩ := a
    have hs : s = none := by have := (cell_spot (hcell 0 (by omega))).1; unfold Addr.add at this; split at this <;> simp_all
    subst hs
    rw [addr_add] at hc h0
    refine ⟨g, o, rfl, h0.2, ?_⟩
    rw [hc, List.getElem_take, List.getD_eq_getElem?_getD, List.getElem?_eq_getElem (by omega)]
    rfl

def kcells (vs : Nat → Value) : Array Value := #[vs 0, vs 1, vs 2, vs 3, vs 4, vs 5, vs 6, vs 7, vs 8]
theorem kcells_at (vs : Nat → Value) (n : Nat) (h : n < 9) : (kcells vs)[n]? = some (vs n) := by
  obtain rfl | rfl | rfl | rfl | rfl | rfl | rfl | rfl | rfl : n = 0 ∨ n = 1 ∨ n = 2 ∨ n = 3 ∨ n = 4 ∨ n = 5 ∨ n = 6 ∨ n = 7 ∨ n = 8 := by omega
  all_goals rfl
theorem kcells_set (vs : Nat → Value) (n : Nat) (h : n < 9) (v : Value) : (kcells vs).setIfInBounds n v = kcells (upd vs n v) := by
  obtain rfl | rfl | rfl | rfl | rfl | rfl | rfl | rfl | rfl : n = 0 ∨ n = 1 ∨ n = 2 ∨ n = 3 ∨ n = 4 ∨ n = 5 ∨ n = 6 ∨ n = 7 ∨ n = 8 := by omega
  all_goals rfl
/-- Nine lists of bytes in an array at block b; S: all its blocks. -/
def KeptAt (w : World) (S : Nat → Prop) (b : Nat) (kb : Nat → List Int) : Prop :=
  S b ∧ (∀ i, S i → i < w.heap.size) ∧ ∃ vs : Nat → Value, Blk w b 42 (kcells vs) ∧ (∀ n, n < 9 → w.ownsRow 0 5 1 (vs n) (kb n).length (bts (kb n))) ∧ (∀ n k, n < 9 → (vs n).ownBlock = some k → S k) ∧
    (∀ n m k, n < 9 → m < 9 → (vs n).ownBlock = some k → (vs m).ownBlock = some k → n = m)
theorem KeptAt.kept {w w' : World} {S U : Nat → Prop} {b : Nat} {kb : Nat → List Int} (h : KeptAt w S b kb) (hm : Mod U w w') (hd : ∀ i, S i → ¬ U i) : KeptAt w' S b kb := by
  obtain ⟨h1, h2, vs, h3, h4, h5, h6⟩ := h
  exact ⟨h1, fun i hi => Nat.lt_of_lt_of_le (h2 i hi) hm.size, vs, h3.kept hm (hd _ h1), fun n hn => own_mod (h4 n hn) hm (fun k hk => hd _ (h5 n k hn hk)) (Nat.le_refl _), h5, h6⟩
theorem KeptAt.below {w w' : World} {S : Nat → Prop} {b : Nat} {kb : Nat → List Int} (h : KeptAt w S b kb) (hb : Below w.heap.size w w') : KeptAt w' S b kb :=
  h.kept (Mod.of_below (S := fun _ => False) hb) (fun _ _ h => h)
/-- What an append to one of them leaves. -/
theorem KeptAt.put {w w2 : World} {S : Nat → Prop} {b : Nat} {kb : Nat → List Int} {vs : Nat → Value} {v2 : Value} {k : Nat} {x : Int} (h1 : S b) (h2 : ∀ i, S i → i < w.heap.size) (h3 : Blk w b 42 (kcells vs)) (h4 : ∀ n, n < 9 → w.ownsRow 0 5 1 (vs n) (kb n).length (bts (kb n)))
    (h5 : ∀ n k, n < 9 → (vs n).ownBlock = some k → S k) (h6 : ∀ n m k, n < 9 → m < 9 → (vs n).ownBlock = some k → (vs m).ownBlock = some k → n = m) (hk : k < 9)
    {W : World} (hW : Below w.heap.size w W) (HA : Appended W 0 5 1 (vs k) ((kb k).length + 1) (bts (kb k) ++ bts [x]) v2 w2) :
    KeptAt (w2.setCell ⟨b, k, none⟩ v2) (fun i => S i ∨ (w.heap.size ≤ i ∧ i < w2.heap.size)) b (upd kb k (kb k ++ [x])) ∧ Mod S w (w2.setCell ⟨b, k, none⟩ v2) ∧ w2.heap.size = (w2.setCell ⟨b, k, none⟩ v2).heap.size := by
  have hm2 : Mod (fun i => (vs k).ownBlock = some i) W w2 := (Mod.refl _ _).grown HA.grown (fun k hk => .inl hk)
  have hm3 : Mod (fun i => (vs k).ownBlock = some i ∨ i = b) W (w2.setCell ⟨b, k, none⟩ v2) := (hm2.mono (fun i hi => .inl hi)).setCell (.inl (.inr rfl)) _
  have hown := HA.own
  have hok := h4 k hk
  have hb2 : Blk w2 b 42 (kcells vs) := (h3.later hW).kept hm2 (fun h => own_ne_blk hok h3 (show (5 : TypeId) ≠ 42 by decide) h)
  have hWs := hW.size
  have hW2 := hm2.size
  have hv2 : ∀ i, v2.ownBlock = some i → i = W.heap.size ∨ (vs k).ownBlock = some i := by
    intro i hi
    rcases HA.at_ with e | e
    · exact .inr (e ▸ hi)
    · left
      rw [e] at hi
      injection hi with hi
      exact hi.symm
  refine ⟨⟨.inl h1, ?_, upd vs k v2, ?_, ?_, ?_, ?_⟩, ?_, by simp⟩
  · intro i hi
    rw [World.size_setCell]
    rcases hi with hi | hi
    · have := h2 i hi; omega
    · exact hi.2
  · have := hb2.set_ k v2
    rwa [kcells_set vs k hk] at this
  · intro n hn
    by_cases e : n = k
    · subst e
      rw [upd_same, upd_same]
      have e1 : (kb n ++ [x]).length = (kb n).length + 1 := by simp
      have e2 : bts (kb n ++ [x]) = bts (kb n) ++ bts [x] := by simp [bts]
      rw [e1, e2]
      refine own_mod (T := fun i => i = b) hown ((Mod.refl (fun i => i = b) w2).setCell (.inl rfl) _) ?_ (Nat.le_refl _)
      intro i hi hib
      subst hib
      exact own_ne_blk hown hb2 (show (5 : TypeId) ≠ 42 by decide) hi
    · rw [upd_ne _ _ e, upd_ne _ _ e]
      refine own_mod (own_below (h4 n hn) hW) hm3 ?_ (Nat.le_refl _)
      rintro i hi (hh | rfl)
      · exact e (h6 n k i hn hk hi hh)
      · exact own_ne_blk (h4 n hn) h3 (show (5 : TypeId) ≠ 42 by decide) hi
  · intro n i hn hi
    by_cases e : n = k
    · subst e
      rw [upd_same] at hi
      rcases hv2 i hi with rfl | hh
      · exact .inr ⟨hWs, own_lt hown _ hi⟩
      · exact .inl (h5 n i hn hh)
    · rw [upd_ne _ _ e] at hi
      exact .inl (h5 n i hn hi)
  · intro n m i hn hm hi hi'
    by_cases e : n = k
    · by_cases e' : m = k
      · omega
      · subst e
        rw [upd_same] at hi
        rw [upd_ne _ _ e'] at hi'
        rcases hv2 i hi with rfl | hh
        · have := h2 _ (h5 m _ hm hi'); omega
        · exact h6 n m i hn hm hh hi'
    · rw [upd_ne _ _ e] at hi
      by_cases e' : m = k
      · subst e'
        rw [upd_same] at hi'
        rcases hv2 i hi' with rfl | hh
        · have := h2 _ (h5 n _ hn hi); omega
        · exact h6 n m i hn hm hi hh
      · rw [upd_ne _ _ e'] at hi'
        exact h6 n m i hn hm hi hi'
  · exact (Mod.of_below (S := S) hW).trans hm3 (fun i hi => by
      rcases hi with hi | rfl
      · exact .inl (h5 k i hk hi)
      · exact .inl h1)
/-- What others do to their blocks, which may grow. -/
theorem RelIn.turn {B : Nat} {K L T : Nat → Prop} {w w' : World} {p : Nat} {q : Nat → List Dg} (h : RelIn B K w p q) (hm : Mod T w w') (hT : ∀ i, T i → K i) (hL : ∀ i, L i → K i ∨ (w.heap.size ≤ i ∧ i < w'.heap.size)) : RelIn B L w' p q := by
  obtain ⟨h1, h2, S, h6, h7⟩ := h
  refine ⟨Nat.le_trans h1 hm.size, fun i hi => ?_, S, fun i hi => ⟨(h6 i hi).1, fun hl => ?_⟩, h7.kept hm (fun i hi ht => (h6 i hi).2 (hT i ht))⟩
  · rcases hL i hi with h | h
    · exact Nat.lt_of_lt_of_le (h2 i h) hm.size
    · exact h.2
  · rcases hL i hl with h | h
    · exact (h6 i hi).2 h
    · have := h7.2.1 i hi; omega

/-- The relay's frames, of the bytes that were put. -/
def qOf (kb : Nat → List Int) : Nat → List Dg := fun n => (kb n).map fun x => ⟨1 + (n : Int) % 8, n, [x]⟩
theorem chk_to (k : Nat) (h1 : 1 ≤ k) (h2 : k < 9) : chkE (1 + (k : Int) % 8) k 1 = 0 := by
  obtain rfl | rfl | rfl | rfl | rfl | rfl | rfl | rfl : k = 1 ∨ k = 2 ∨ k = 3 ∨ k = 4 ∨ k = 5 ∨ k = 6 ∨ k = 7 ∨ k = 8 := by omega
  all_goals rfl
theorem ord_putE (kb : Nat → List Int) (k : Nat) (h1 : 1 ≤ k) (h2 : k < 9) : rputE (qOf kb) (1 + (k : Int) % 8) k 1 = if (kb k).length = 16 then 7 else 0 := by
  unfold rputE
  rw [chk_to k h1 h2, if_pos rfl, Int.toNat_natCast]
  simp [qOf]
theorem ord_putQ (kb : Nat → List Int) (k : Nat) (h1 : 1 ≤ k) (h2 : k < 9) (x : Int) (h : (kb k).length ≠ 16) : rputQ (qOf kb) (1 + (k : Int) % 8) k [x] = qOf (upd kb k (kb k ++ [x])) := by
  unfold rputQ
  rw [show ([x] : List Int).length = 1 from rfl, ord_putE kb k h1 h2, if_neg h, if_pos rfl, Int.toNat_natCast]
  funext n
  by_cases e : n = k
  · subst e
    rw [upd_same]
    unfold qOf
    rw [upd_same]
    simp
  · rw [upd_ne _ _ e]
    unfold qOf
    rw [upd_ne _ _ e]
theorem ord_full (kb : Nat → List Int) (k : Nat) (h1 : 1 ≤ k) (h2 : k < 9) (x : Int) (h : (kb k).length = 16) : rputQ (qOf kb) (1 + (k : Int) % 8) k [x] = qOf kb := by
  unfold rputQ
  rw [show ([x] : List Int).length = 1 from rfl, ord_putE kb k h1 h2, if_pos h, if_neg (by decide)]
/-- .. and of those that are left: of nodes below to none, of to those behind the i-th. -/
def qAt (kb : Nat → List Int) (to i : Nat) : Nat → List Dg := fun n => if 1 ≤ n ∧ n < to then [] else if n = to then (qOf kb n).drop i else qOf kb n
theorem qAt_start (kb : Nat → List Int) : qAt kb 1 0 = qOf kb := by
  funext n
  unfold qAt
  rw [if_neg (by omega)]
  split <;> simp
theorem qAt_to (kb : Nat → List Int) (to i : Nat) : qAt kb to i to = (qOf kb to).drop i := by unfold qAt; rw [if_neg (by omega), if_pos rfl]
theorem qAt_next (kb : Nat → List Int) (to : Nat) (h : 1 ≤ to) : qAt kb to (kb to).length = qAt kb (to + 1) 0 := by
  funext n
  unfold qAt
  by_cases e : n = to
  · subst e
    rw [if_neg (by omega), if_pos rfl, if_pos (by omega)]
    exact List.drop_eq_nil_of_le (by simp [qOf])
  · by_cases e2 : n = to + 1
    · subst e2
      rw [if_neg (by omega), if_neg (by omega), if_neg (by omega), if_pos rfl]
      rfl
    · by_cases e3 : 1 ≤ n ∧ n < to
      · rw [if_pos e3, if_pos (by omega)]
      · rw [if_neg e3, if_neg e, if_neg (by omega), if_neg e2]
theorem node_b (k : Nat) (h1 : 1 ≤ k) (h2 : k < 9) : nodeB (k : Int) = true := by simp [nodeB]; omega
theorem qAt_len (kb : Nat → List Int) (to i : Nat) (h1 : 1 ≤ to) (h2 : to < 9) : lenF (qAt kb to i) to = (((kb to).length - i : Nat) : Int) := by
  unfold lenF
  rw [node_b to h1 h2, if_pos rfl, Int.toNat_natCast, qAt_to]
  simp [qOf]
theorem qAt_take (kb : Nat → List Int) (to i : Nat) (h1 : 1 ≤ to) (h2 : to < 9) (hi : i < (kb to).length) : takesF (qAt kb to i) to (1 + (to : Int) % 8) to [(kb to)[i]] = true ∧ takQ (qAt kb to i) to = qAt kb to (i + 1) := by
  have hd : (qOf kb to).drop i = ⟨1 + (to : Int) % 8, to, [(kb to)[i]]⟩ :: (qOf kb to).drop (i + 1) := by
    rw [List.drop_eq_getElem_cons (by simpa [qOf] using hi)]
    simp [qOf]
  have he : takE (qAt kb to i) to = 0 := by
    unfold takE
    rw [node_b to h1 h2, if_pos rfl, Int.toNat_natCast, qAt_to, hd, if_neg (by simp)]
  constructor
  · unfold takesF takD
    rw [he, if_pos rfl, if_pos rfl, Int.toNat_natCast, qAt_to, hd]
    simp [sameF, eqB]
  · unfold takQ
    rw [he, if_pos rfl, Int.toNat_natCast, qAt_to, hd]
    funext n
    by_cases e : n = to
    · subst e; rw [upd_same, qAt_to]; rfl
    · rw [upd_ne _ _ e]; unfold qAt; rw [if_neg e, if_neg e]
theorem qAt_none (kb : Nat → List Int) (to : Nat) (h1 : 1 ≤ to) (h2 : to < 9) : takE (qAt kb to (kb to).length) to = 240 ∧ takD (qAt kb to (kb to).length) to = ⟨0, 0, []⟩ ∧ takQ (qAt kb to (kb to).length) to = qAt kb to (kb to).length := by
  have he : takE (qAt kb to (kb to).length) to = 240 := by
    unfold takE
    rw [node_b to h1 h2, if_pos rfl, Int.toNat_natCast, qAt_to, if_pos (by simp [qOf])]
  refine ⟨he, ?_, ?_⟩
  · unfold takD; rw [he, if_neg (by decide)]
  · unfold takQ; rw [he, if_neg (by decide)]
end Go.Proofs.Ytdnbbjhickjnmaa
