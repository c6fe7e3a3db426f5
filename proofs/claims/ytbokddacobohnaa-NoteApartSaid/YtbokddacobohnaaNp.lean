/- The plain law of notes: what bytes read as. No further condition. -/
import Derived.Test.YtbokddacobohnaaNt2
import Derived.Test.YtbokddacobohnaaNum
namespace Go.Proofs.Ytbokddacobohnaa
open Go.RowKit
def bodyL (l : List En) : List Int := l.flatMap fun e => le 1 e.1 ++ le 4 e.2
theorem bodyL_len (l : List En) : (bodyL l).length = l.length * 5 := flat_len_ l
where flat_len_ : ∀ l : List En, (bodyL l).length = l.length * 5
  | [] => rfl
  | a :: l => by have := flat_len_ l; unfold bodyL at this ⊢; simp only [List.flatMap_cons, List.length_append, le_len, this, List.length_cons]; omega
theorem bodyL_snoc (l : List En) (e : En) : bodyL (l ++ [e]) = bodyL l ++ le 1 e.1 ++ le 4 e.2 := by simp [bodyL]
theorem bodyL_drop : ∀ (l : List En) (k : Nat), (bodyL l).drop (5 * k) = bodyL (l.drop k)
  | [], k => by simp [bodyL]
  | a :: l, 0 => rfl
  | a :: l, k + 1 => by
    have := bodyL_drop l k
    unfold bodyL at this ⊢
    rw [List.flatMap_cons, List.drop_succ_cons, ← this, List.drop_append, List.drop_eq_nil_of_le (by simp only [List.length_append, le_len]; omega), List.nil_append]
    congr 1
/-- A note's bytes, without their sum. -/
def noteL (seq n1 : Nat) (l : List En) : List Int := le 1 78 ++ le 8 seq ++ le 2 n1 ++ bodyL l
theorem noteL_len (seq n1 : Nat) (l : List En) : (noteL seq n1 l).length = 11 + l.length * 5 := by simp [noteL, le_len, bodyL_len]; omega
theorem bodyL_oct (l : List En) : Oct (bodyL l) := by
  intro x hx
  obtain ⟨e, _, he⟩ := List.mem_flatMap.1 hx
  exact (le_oct 1 e.1).app (le_oct 4 e.2) x he
theorem noteL_oct (seq n1 : Nat) (l : List En) : Oct (noteL seq n1 l) := (((le_oct _ _).app (le_oct _ _)).app (le_oct _ _)).app (bodyL_oct l)
/-- May an entry be? -/
def okE (e : En) : Bool := decide (e.1 < 4) && (decide (0 < e.1) || e.2 == 0)
def entAt (ys : List Int) (j : Nat) : En := (nf ys (11 + 5 * j) 1, nf ys (12 + 5 * j) 4)
def ents (ys : List Int) (k : Nat) : List En := (List.range k).map (entAt ys)
theorem ents_len (ys : List Int) (k : Nat) : (ents ys k).length = k := by simp [ents]
theorem ents_snoc (ys : List Int) (k : Nat) : ents ys (k + 1) = ents ys k ++ [entAt ys k] := by simp [ents, List.range_succ]
def zeros (l : List Int) : Bool := l.all (· == 0)
def good (xs : List Int) (s : Nat) : Bool := (nf xs 0 1 == 78) && (ents xs s).all okE && zeros (xs.drop (15 + 5 * s))
/-- Sealed, as a note of so many slots? -/
def isSeal (xs : List Int) (s : Nat) : Prop := xs.take (15 + 5 * s) = sealL (xs.take (11 + 5 * s))
instance (xs : List Int) (s : Nat) : Decidable (isSeal xs s) := by unfold isSeal; exact inferInstance
def dCode (xs : List Int) (slots : Int) : Nat := if slots < 0 ∨ (xs.length : Int) < 15 + 5 * slots then 6 else if ¬ isSeal xs slots.toNat then 5 else if good xs slots.toNat = true then 0 else 4
def dSeq (xs : List Int) (slots : Int) : Nat := if dCode xs slots = 0 then nf xs 1 8 else 0
def dNext (xs : List Int) (slots : Int) : Int := if dCode xs slots = 0 then (nf xs 9 2 : Int) - 1 else 0
def dEnts (xs : List Int) (slots : Int) : List En := if dCode xs slots = 0 then ents xs slots.toNat else []
theorem dCode_size {xs : List Int} {slots : Int} (h : slots < 0 ∨ (xs.length : Int) < 15 + 5 * slots) : dCode xs slots = 6 := if_pos h
theorem dCode_sum {xs : List Int} {s : Nat} (h : 15 + 5 * s ≤ xs.length) (h2 : ¬ isSeal xs s) : dCode xs s = 5 := by
  unfold dCode
  rw [if_neg (by omega), if_pos (by simpa using h2)]
theorem dCode_form {xs : List Int} {s : Nat} (h : 15 + 5 * s ≤ xs.length) (h2 : isSeal xs s) : dCode xs s = if good xs s = true then 0 else 4 := by
  unfold dCode
  rw [if_neg (by omega), if_neg (by simpa using h2)]
  rfl
theorem noteL_1 (seq n1 : Nat) (l : List En) : (noteL seq n1 l).drop 1 = le 8 seq ++ (le 2 n1 ++ bodyL l) := by
  unfold noteL
  rw [List.append_assoc, List.append_assoc, List.drop_append_of_le_length (by rw [le_len]; exact Nat.le_refl _), List.drop_eq_nil_of_le (by rw [le_len]; exact Nat.le_refl _), List.nil_append]
theorem noteL_9 (seq n1 : Nat) (l : List En) : (noteL seq n1 l).drop 9 = le 2 n1 ++ bodyL l := by
  rw [show (9 : Nat) = 1 + 8 from rfl, ← List.drop_drop, noteL_1, List.drop_append_of_le_length (by rw [le_len]; exact Nat.le_refl _), List.drop_eq_nil_of_le (by rw [le_len]; exact Nat.le_refl _), List.nil_append]
theorem noteL_11 (seq n1 : Nat) (l : List En) : (noteL seq n1 l).drop 11 = bodyL l := by
  rw [show (11 : Nat) = 9 + 2 from rfl, ← List.drop_drop, noteL_9, List.drop_append_of_le_length (by rw [le_len]; exact Nat.le_refl _), List.drop_eq_nil_of_le (by rw [le_len]; exact Nat.le_refl _), List.nil_append]
theorem noteL_ent {l : List En} {j : Nat} {e : En} (seq n1 : Nat) (h : l[j]? = some e) : (noteL seq n1 l).drop (11 + 5 * j) = le 1 e.1 ++ (le 4 e.2 ++ bodyL (l.drop (j + 1))) := by
  obtain ⟨hj, rfl⟩ := List.getElem?_eq_some_iff.1 h
  rw [← List.drop_drop, noteL_11, bodyL_drop, List.drop_eq_getElem_cons hj]
  unfold bodyL
  rw [List.flatMap_cons, List.append_assoc]
def EnOk (l : List En) : Prop := ∀ e ∈ l, e.1 < 4 ∧ e.2 < 4294967296 ∧ (e.1 = 0 → e.2 = 0)
theorem EnOk.okE {l : List En} (h : EnOk l) : l.all Go.Proofs.Ytbokddacobohnaa.okE = true := by
  rw [List.all_eq_true]
  intro e he
  obtain ⟨h1, h2, h3⟩ := h e he
  unfold Go.Proofs.Ytbokddacobohnaa.okE
  rw [decide_eq_true h1, Bool.true_and]
  by_cases h0 : e.1 = 0
  · simp [h0, h3 h0]
  · rw [decide_eq_true (by omega), Bool.true_or]
theorem noteL_ents {l : List En} (seq n1 : Nat) (h : ∀ e ∈ l, e.1 < 256 ∧ e.2 < 4294967296) : ents (noteL seq n1 l) l.length = l := by
  apply List.ext_getElem?
  intro j
  rcases Nat.lt_or_ge j l.length with hj | hj
  · have he := List.getElem?_eq_getElem hj
    obtain ⟨h1, h2⟩ := h _ (List.getElem_mem hj)
    have hd := noteL_ent seq n1 he
    unfold ents
    rw [List.getElem?_map, List.getElem?_range hj, he, Option.map_some]
    congr 1
    refine Prod.ext ?_ ?_
    · exact nf_at hd (by decide) (by omega)
    · refine nf_at (b := bodyL (l.drop (j + 1))) ?_ (by decide) (by omega)
      rw [show 12 + 5 * j = 11 + 5 * j + 1 by omega, ← List.drop_drop, hd, List.drop_append_of_le_length (by rw [le_len]; exact Nat.le_refl _), List.drop_eq_nil_of_le (by rw [le_len]; exact Nat.le_refl _), List.nil_append]
  · rw [List.getElem?_eq_none (by rw [ents_len]; exact hj), List.getElem?_eq_none hj]
theorem ents_take (xs : List Int) (s : Nat) {k : Nat} (h : 11 + 5 * s ≤ k) : ents (xs.take k) s = ents xs s := by
  unfold ents
  apply List.map_congr_left
  intro j hj
  have := List.mem_range.1 hj
  unfold entAt
  rw [nf_take _ (by omega), nf_take _ (by omega)]
/-- A note's bytes, sealed, with noughts behind them: they read as the note. -/
theorem dec_back (seq n1 : Nat) (l : List En) (k : Nat) (hs : seq < 18446744073709551616) (hn : n1 < 65536) (hl : EnOk l) :
    dCode (sealL (noteL seq n1 l) ++ List.replicate k 0) l.length = 0 ∧ dSeq (sealL (noteL seq n1 l) ++ List.replicate k 0) l.length = seq ∧ dNext (sealL (noteL seq n1 l) ++ List.replicate k 0) l.length = (n1 : Int) - 1 ∧ dEnts (sealL (noteL seq n1 l) ++ List.replicate k 0) l.length = l := by
  obtain ⟨xs, hxs⟩ : ∃ xs, xs = sealL (noteL seq n1 l) ++ List.replicate k 0 := ⟨_, rfl⟩
  have hlen : 15 + 5 * l.length ≤ xs.length := by rw [hxs, List.length_append, sealL_len, noteL_len]; omega
  have ht : xs.take (11 + 5 * l.length) = noteL seq n1 l := by rw [hxs]; exact take_seal0 (by rw [noteL_len]; omega)
  have ht4 : xs.take (15 + 5 * l.length) = sealL (noteL seq n1 l) := by rw [hxs]; exact take_seal (by rw [noteL_len]; omega)
  have hd : xs.drop (15 + 5 * l.length) = List.replicate k 0 := by rw [hxs]; exact drop_seal (by rw [noteL_len]; omega)
  have hsl : isSeal xs l.length := by unfold isSeal; rw [ht, ht4]
  have e0 : nf xs 0 1 = 78 := by
    rw [← nf_take xs (k := 11 + 5 * l.length) (by omega), ht]
    refine nf_at (b := le 8 seq ++ (le 2 n1 ++ bodyL l)) ?_ (by decide) (by decide)
    unfold noteL
    rw [List.drop_zero, List.append_assoc, List.append_assoc]
  have e1 : nf xs 1 8 = seq := by
    rw [← nf_take xs (k := 11 + 5 * l.length) (by omega), ht]
    exact nf_at (noteL_1 seq n1 l) (by decide) (by omega)
  have e9 : nf xs 9 2 = n1 := by
    rw [← nf_take xs (k := 11 + 5 * l.length) (by omega), ht]
    exact nf_at (noteL_9 seq n1 l) (by decide) (by omega)
  have ee : ents xs l.length = l := by
    rw [← ents_take xs l.length (Nat.le_refl _), ht]
    exact noteL_ents seq n1 fun e he => ⟨by have := (hl e he).1; omega, (hl e he).2.1⟩
  have hg : good xs l.length = true := by
    unfold good
    rw [e0, ee, hl.okE, hd]
    simp [zeros]
  have hc : dCode xs l.length = 0 := by rw [dCode_form hlen hsl, if_pos hg]
  rw [← hxs]
  refine ⟨hc, ?_, ?_, ?_⟩
  · unfold dSeq; rw [if_pos hc, e1]
  · unfold dNext; rw [if_pos hc, e9]
  · unfold dEnts; rw [if_pos hc]; exact ee
theorem noteL_inj {s s' n n' : Nat} {l m : List En} (hs : s < 18446744073709551616) (hs' : s' < 18446744073709551616) (hn : n < 65536) (hn' : n' < 65536) (hl : EnOk l) (hm : EnOk m) (hlm : m.length = l.length)
    (e : sealL (noteL s n l) = sealL (noteL s' n' m)) : s = s' ∧ n = n' ∧ l = m := by
  obtain ⟨-, a1, a2, a3⟩ := dec_back s n l 0 hs hn hl
  obtain ⟨-, b1, b2, b3⟩ := dec_back s' n' m 0 hs' hn' hm
  rw [hlm, ← e] at b1 b2 b3
  rw [a1] at b1
  rw [a2] at b2
  rw [a3] at b3
  exact ⟨b1, by omega, b3⟩
end Go.Proofs.Ytbokddacobohnaa
