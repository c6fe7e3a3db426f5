/- Images and their pages: the plain law: what pages carry is read of them. No further condition. -/
import Derived.Test.YtcpngnnnggpfpaaIk
namespace Go.Proofs.Ytcpngnnnggpfpaa
open Go.RowKit

theorem nf_mid {a b xs : List Int} {n v i : Nat} (e : xs = a ++ le n v ++ b) (hi : i = a.length) (hn : n ≤ 8) (hv : v < 256 ^ n) : nf xs i n = v :=
  nf_at (b := b) (by subst e hi; rw [List.append_assoc, List.drop_append_of_le_length (Nat.le_refl _), List.drop_length, List.nil_append]) hn hv
theorem flat_split {α : Type} (f : α → List Int) {l : List α} {i : Nat} {s : α} (h : l[i]? = some s) : l.flatMap f = (l.take i).flatMap f ++ f s ++ (l.drop (i + 1)).flatMap f := by
  have h1 := take_snoc_pk h
  have h2 : l = l.take (i + 1) ++ l.drop (i + 1) := (List.take_append_drop _ _).symm
  conv => lhs; rw [h2]
  rw [List.flatMap_append, h1, List.flatMap_append]
  simp
theorem segsAt_get (all : List Int) (n i : Nat) (h : i < (segsAt all n).length) : (segsAt all n)[i] = segAt all i := by simp [segsAt]
theorem mapsAt_get (all : List Int) (s n i : Nat) (h : i < (mapsAt all s n).length) : (mapsAt all s n)[i] = mapAt all s i := by simp [mapsAt]
theorem pic_back (y : Pic) (zs : List Int) (h : OkPic y) : picAt (picL y ++ zs) y.cs.length y.mp.length = y := by
  obtain ⟨sq, sg, ix, cs, mp⟩ := y
  obtain ⟨h1, h2, h3, h4, h5, h6, h7⟩ := h
  simp only at h1 h2 h3 h4 h5 h6 h7
  unfold picAt
  simp only
  have e1 : nf (picL ⟨sq, sg, ix, cs, mp⟩ ++ zs) 0 8 = sq := nf_mid (a := []) (b := le 2 sg ++ le 2 ix ++ csL cs ++ mpL mp ++ zs) (by simp [picL, hdL]) rfl (by decide) (by omega)
  have e2 : nf (picL ⟨sq, sg, ix, cs, mp⟩ ++ zs) 8 2 = sg := nf_mid (a := le 8 sq) (b := le 2 ix ++ csL cs ++ mpL mp ++ zs) (by simp [picL, hdL]) (by simp [le_len]) (by decide) (by omega)
  have e3 : nf (picL ⟨sq, sg, ix, cs, mp⟩ ++ zs) 10 2 = ix := nf_mid (a := le 8 sq ++ le 2 sg) (b := csL cs ++ mpL mp ++ zs) (by simp [picL, hdL]) (by simp [le_len]) (by decide) (by omega)
  have e4 : segsAt (picL ⟨sq, sg, ix, cs, mp⟩ ++ zs) cs.length = cs := by
    refine List.ext_getElem (segsAt_len _ _) fun i hi hj => ?_
    have hs : cs[i]? = some cs[i] := List.getElem?_eq_getElem hj
    obtain ⟨q1, q2⟩ := h4 _ (List.getElem_mem hj)
    have hsp : csL cs = csL (cs.take i) ++ (le 1 cs[i].1 ++ le 8 cs[i].2) ++ csL (cs.drop (i + 1)) := flat_split (fun s : Nat × Nat => le 1 s.1 ++ le 8 s.2) hs
    have hl : (csL (cs.take i)).length = i * 9 := by rw [csL_len, List.length_take]; omega
    rw [segsAt_get]
    unfold segAt
    refine Prod.ext ?_ ?_
    · exact nf_mid (a := hdL sq sg ix ++ csL (cs.take i)) (b := le 8 cs[i].2 ++ csL (cs.drop (i + 1)) ++ mpL mp ++ zs) (by unfold picL; simp only; rw [hsp]; simp only [List.append_assoc]) (by rw [List.length_append, hdL_len, hl]; omega) (by decide) (by omega)
    · exact nf_mid (a := hdL sq sg ix ++ csL (cs.take i) ++ le 1 cs[i].1) (b := csL (cs.drop (i + 1)) ++ mpL mp ++ zs) (by unfold picL; simp only; rw [hsp]; simp only [List.append_assoc]) (by rw [List.length_append, List.length_append, hdL_len, hl, le_len]; omega) (by decide) (by omega)
  have e5 : mapsAt (picL ⟨sq, sg, ix, cs, mp⟩ ++ zs) cs.length mp.length = mp := by
    refine List.ext_getElem (mapsAt_len _ _ _) fun i hi hj => ?_
    have hs : mp[i]? = some mp[i] := List.getElem?_eq_getElem hj
    have q1 := h5 _ (List.getElem_mem hj)
    have hsp : mpL mp = mpL (mp.take i) ++ le 4 mp[i] ++ mpL (mp.drop (i + 1)) := flat_split (le 4) hs
    have hl : (mpL (mp.take i)).length = i * 4 := by rw [mpL_len, List.length_take]; omega
    rw [mapsAt_get]
    unfold mapAt
    exact nf_mid (a := hdL sq sg ix ++ csL cs ++ mpL (mp.take i)) (b := mpL (mp.drop (i + 1)) ++ zs) (by unfold picL; simp only; rw [hsp]; simp only [List.append_assoc]) (by rw [List.length_append, List.length_append, hdL_len, hl, csL_len]; omega) (by decide) (by omega)
  rw [e1, e2, e3, e4, e5]
/-- The image may be, of such a shape. -/
structure OkIm (s t q : Nat) (y : Pic) : Prop where
  sg : y.sg ≤ s
  ix : y.ix < t
  cs : ∀ c ∈ y.cs, c.1 ≤ 2
  mp : ∀ p ∈ y.mp, p ≤ q
theorem pic_may (s t q n : Nat) (y : Pic) (h : OkPic y) (k : OkIm s t q y) (hs : y.cs.length = s) : picB s t q (picL y ++ List.replicate n 0) y.mp.length = true := by
  unfold picB
  rw [← hs, pic_back y _ h]
  rw [hs]
  have h1 : decide ((y.sg : Int) - 1 < s) = true := decide_eq_true (by have := k.sg; omega)
  have h2 : decide (y.ix < t) = true := decide_eq_true k.ix
  have h3 : (y.cs.all fun c => decide (c.1 ≤ 2)) = true := List.all_eq_true.2 fun c hc => decide_eq_true (k.cs c hc)
  have h4 : (y.mp.all fun p => decide ((p : Int) - 1 < q)) = true := List.all_eq_true.2 fun c hc => decide_eq_true (by have := k.mp c hc; omega)
  have h5 : (picL y ++ List.replicate n 0).drop (12 + 9 * s + 4 * y.mp.length) = List.replicate n 0 := by
    rw [List.drop_append_of_le_length (by rw [picL_len]; omega), List.drop_of_length_le (by rw [picL_len]; omega), List.nil_append]
  rw [h1, h2, h3, h4, h5]
  unfold zer
  rw [List.all_eq_true.2 fun c hc => by rw [List.eq_of_mem_replicate hc]; rfl]
  rfl

/-! ### pages -/
theorem page_parts (gen g : Nat) (all : List Int) (i : Nat) (ho : Oct all) : (pgL gen g all i).take (g + 11) = pad (pgB gen g all i) (g + 11) ∧ num ((pgL gen g all i).drop (g + 11)) = cs (pad (pgB gen g all i) (g + 11)) := by
  have hl : (pad (pgB gen g all i) (g + 11)).length = g + 11 := pad_len (pgB_len _ _ _ _)
  have hoc : Oct (pad (pgB gen g all i) (g + 11)) := pad_oct (pgB_oct ho _ _ _) _
  unfold pgL sealL
  constructor
  · rw [List.take_append_of_le_length (by omega), List.take_of_length_le (by omega)]
  · rw [List.drop_append_of_le_length (by omega), List.drop_of_length_le (by omega), List.nil_append, num_le, Nat.mod_eq_of_lt (by have := cs_lt hoc; omega)]
theorem head_of (gen g : Nat) (all : List Int) (i : Nat) (hg : gen < 18446744073709551616) (hi : i < 65536) (n : Nat) : nf (pad (pgB gen g all i) n) 0 1 = 80 ∧ nf (pad (pgB gen g all i) n) 1 8 = gen ∧ nf (pad (pgB gen g all i) n) 9 2 = i := by
  unfold pad pgB
  refine ⟨?_, ?_, ?_⟩
  · exact nf_mid (a := []) (n := 1) (v := 80) (b := le 8 gen ++ le 2 i ++ (all.drop (i * g)).take g ++ List.replicate _ 0) (by simp only [List.append_assoc]; rfl) rfl (by decide) (by decide)
  · exact nf_mid (a := le 1 80) (b := le 2 i ++ (all.drop (i * g)).take g ++ List.replicate _ 0) (by simp only [List.append_assoc]; rfl) (by simp [le_len]) (by decide) (by omega)
  · exact nf_mid (a := le 1 80 ++ le 8 gen) (b := (all.drop (i * g)).take g ++ List.replicate _ 0) (by simp only [List.append_assoc]; rfl) (by simp [le_len]) (by decide) (by omega)
theorem one_page (gen gen' g : Nat) (all : List Int) (i j : Nat) (ho : Oct all) (hg : gen < 18446744073709551616) (hi : i < 65536) : oneC gen' g j (pgL gen g all i) = if gen = gen' ∧ i = j then 0 else 4 := by
  obtain ⟨h1, h2⟩ := page_parts gen g all i ho
  obtain ⟨h3, h4, h5⟩ := head_of gen g all i hg hi (g + 11)
  unfold oneC
  rw [if_pos (pgL_len _ _ _ _), h1, if_pos h2]
  unfold headB
  rw [h3, h4, h5]
  by_cases a : gen = gen' <;> by_cases b : i = j <;> simp [a, b]
theorem rest_page (gen g : Nat) (all : List Int) (i : Nat) (ho : Oct all) : restL g (pgL gen g all i) = pad ((all.drop (i * g)).take g) g := by
  unfold restL
  rw [(page_parts gen g all i ho).1]
  have hh : (le 1 80 ++ le 8 gen ++ le 2 i).length = 11 := by simp [le_len]
  unfold pad pgB
  rw [List.append_assoc, List.drop_append_of_le_length (by omega), List.drop_of_length_le (by omega), List.nil_append, List.length_append, hh]
  congr 2
  omega
theorem pad_slice (all : List Int) (n i g : Nat) (hi : (i + 1) * g ≤ n) (hn : all.length ≤ n) : ((pad all n).drop (i * g)).take g = pad ((all.drop (i * g)).take g) g := by
  rw [Nat.succ_mul] at hi
  refine List.ext_getElem? fun k => ?_
  unfold pad
  rw [List.getElem?_take, List.getElem?_drop]
  by_cases hk : k < g
  · rw [if_pos hk]
    by_cases h1 : i * g + k < all.length
    · rw [List.getElem?_append_left h1, List.getElem?_append_left (by rw [List.length_take, List.length_drop]; omega), List.getElem?_take, if_pos hk, List.getElem?_drop]
    · rw [List.getElem?_append_right (by omega), List.getElem?_append_right (by rw [List.length_take, List.length_drop]; omega), List.getElem?_replicate, List.getElem?_replicate, List.length_take, List.length_drop, if_pos (by omega), if_pos (by omega)]
  · rw [if_neg hk, List.getElem?_eq_none (by rw [List.length_append, List.length_replicate, List.length_take, List.length_drop]; omega)]
theorem rests_pages (gen g : Nat) (all : List Int) (P : Nat) (ho : Oct all) (hP : all.length ≤ P * g) (k : Nat) (hk : k ≤ P) : restsL g (pgsL gen g all k) = (pad all (P * g)).take (k * g) := by
  induction k with
  | zero => simp [pgsL, restsL]
  | succ k ih =>
    rw [pgsL_snoc]
    unfold restsL at ih ⊢
    rw [List.flatMap_append, ih (by omega), List.flatMap_singleton, rest_page _ _ _ _ ho, ← pad_slice all (P * g) k g (Nat.mul_le_mul_right _ hk) hP, Nat.succ_mul, List.take_add]
theorem rests_all (gen g : Nat) (all : List Int) (P : Nat) (ho : Oct all) (hP : all.length ≤ P * g) : restsL g (pgsL gen g all P) = all ++ List.replicate (P * g - all.length) 0 := by
  rw [rests_pages gen g all P ho hP P (Nat.le_refl _), List.take_of_length_le (by rw [pad_len hP]; exact Nat.le_refl _)]
  rfl
theorem first_range (gen g : Nat) (all : List Int) (ho : Oct all) (hg : gen < 18446744073709551616) (n i : Nat) (h : i + n ≤ 65536) : firstC gen g i ((List.range' i n).map (pgL gen g all)) = 0 := by
  induction n generalizing i with
  | zero => rfl
  | succ n ih =>
    rw [List.range'_succ, List.map_cons]
    unfold firstC
    have h1 := one_page gen gen g all i i ho hg (by omega)
    rw [if_pos ⟨rfl, rfl⟩] at h1
    rw [if_pos h1]
    exact ih (i + 1) (by omega)
theorem pgsL_len (gen g : Nat) (all : List Int) (P : Nat) : (pgsL gen g all P).length = P := by simp [pgsL]
theorem first_pages (gen g : Nat) (all : List Int) (ho : Oct all) (hg : gen < 18446744073709551616) (P : Nat) (h : P ≤ 65536) : firstC gen g 0 (pgsL gen g all P) = 0 := by
  unfold pgsL
  rw [List.range_eq_range']
  exact first_range gen g all ho hg P 0 (by omega)
theorem back_code (gen g P s t q : Nat) (y : Pic) (h : OkPic y) (k : OkIm s t q y) (hs : y.cs.length = s) (hg : gen < 18446744073709551616) (hP : P ≤ 65536) (hT : (picL y).length ≤ P * g) :
    decC gen g P s t q y.mp.length (pgsL gen g (picL y) P) = 0 ∧ decP gen g P s t q y.mp.length (pgsL gen g (picL y) P) = y := by
  have h1 : decC gen g P s t q y.mp.length (pgsL gen g (picL y) P) = 0 := by
    unfold decC
    rw [if_pos (pgsL_len _ _ _ _), if_pos (first_pages gen g _ (picL_oct y) hg P hP), rests_all gen g _ P (picL_oct y) hT, if_pos (pic_may s t q _ y h k hs)]
  refine ⟨h1, ?_⟩
  unfold decP
  rw [if_pos h1, rests_all gen g _ P (picL_oct y) hT, ← hs, pic_back y _ h]
/-- Pages of another generation, or with another one first, are none. -/
theorem other_code (gen gen' g P s t q l : Nat) (all : List Int) (i : Nat) (rest : List (List Int)) (ho : Oct all) (hg : gen < 18446744073709551616) (hi : i < 65536) (hne : gen ≠ gen' ∨ i ≠ 0) (hl : rest.length + 1 = P) :
    decC gen' g P s t q l (pgL gen g all i :: rest) = 4 := by
  have h1 : firstC gen' g 0 (pgL gen g all i :: rest) = 4 := by
    unfold firstC
    have h1 := one_page gen gen' g all i 0 ho hg hi
    rw [if_neg (fun h => by rcases hne with h1 | h1; exact h1 h.1; exact h1 h.2)] at h1
    rw [h1, if_neg (by decide)]
  unfold decC
  rw [if_pos (by simpa using hl), h1, if_neg (by decide)]
/-! ### what Make makes may be -/
theorem segsM_ok (cs : List (Nat × Nat)) (n : Nat) (h : ∀ c ∈ cs, c.1 < 256 ∧ c.2 < 18446744073709551616) : ∀ c ∈ segsM cs n, c.1 ≤ 2 ∧ c.2 < 18446744073709551616 := by
  intro c hc
  obtain ⟨i, _, rfl⟩ := List.mem_map.1 hc
  unfold segM
  refine ⟨by simp only; omega, ?_⟩
  simp only
  rw [List.getD_eq_getElem?_getD]
  by_cases hi : i < cs.length
  · rw [List.getElem?_eq_getElem hi]
    exact (h _ (List.getElem_mem hi)).2
  · rw [List.getElem?_eq_none (by omega)]
    exact (by decide)
theorem mapsM_ok (mp : List Nat) (q n : Nat) : ∀ p ∈ mapsM mp q n, p ≤ q := by
  intro p hp
  obtain ⟨i, _, rfl⟩ := List.mem_map.1 hp
  unfold mapM
  have := Nat.mod_lt (mp.getD i 0) (show 0 < q + 1 by omega)
  omega
theorem makeP_ok (y : Sml) (h : OkSml y) (s t q l : Nat) (hs : 2 ≤ s ∧ s ≤ 1000) (ht : 1 ≤ t ∧ t ≤ 1000) (hq : q ≤ 1000000) (hl : l ≤ 1000) : OkPic (makeP y s t q l) ∧ OkIm s t q (makeP y s t q l) ∧ (makeP y s t q l).cs.length = s ∧ (makeP y s t q l).mp.length = l := by
  have h1 := sgM_lt y.sg s (by omega)
  have h2 := Nat.mod_lt y.ix (show 0 < t by omega)
  refine ⟨⟨h.sq, ?_, ?_, ?_, ?_, ?_, ?_⟩, ⟨h1, h2, ?_, ?_⟩, segsM_len _ _, mapsM_len _ _ _⟩
  · show sgM y.sg s < 65536
    omega
  · show y.ix % t < 65536
    omega
  · intro c hc
    have := segsM_ok y.cs s h.cs c hc
    omega
  · intro p hp
    have := mapsM_ok y.mp q l p hp
    omega
  · show (segsM y.cs s).length ≤ 1000
    rw [segsM_len]
    exact hs.2
  · show (mapsM y.mp q l).length ≤ 1000
    rw [mapsM_len]
    exact hl
  · exact fun c hc => (segsM_ok y.cs s h.cs c hc).1
  · exact mapsM_ok y.mp q l
end Go.Proofs.Ytcpngnnnggpfpaa
