/- XorBack: the plain law, and the row of copies. No further condition. -/
import Derived.Test.YtnahblhjjpjnbaaXu
import Derived.Test.YtnahblhjjpjnbaaPureXorNone
import Derived.Laws.CopyOwn
namespace Go.Proofs.Ytnahblhjjpjnbaa
open Go.RowKit
open Go.Proofs.YtnahblhjjpjnbaaW.PrintWords (Kd rd)

/-! ### plain -/
theorem but_l0' (l : List (List Int)) (hl : Q.BRows l) (hll : l.length ≤ 5864062014800) (at_ : Int) : ∀ (d i k : Nat) (acc : List (List Int)), l.length - i = d → i ≤ l.length → acc.length ≤ i → acc ++ Pure.others at_ i (l.drop i) = Pure.others at_ 0 l → d + l.length + Q.cost l + 5 ≤ k →
    Q.xor_But.l0 k at_ acc l (l.length : Int) (i : Int) = some (Q.L (Q.mlen (Pure.others at_ 0 l)) (Q.xorAt (Pure.others at_ 0 l)))
  | 0, i, k, acc, hd, hi, ha, he, hk => by
    obtain ⟨k, rfl⟩ : ∃ m, k = m + 1 := ⟨k - 1, by omega⟩
    rw [List.drop_eq_nil_of_le (by omega)] at he
    simp only [Pure.others, List.append_nil] at he
    have h1 := Pure.others_len (at_ := at_) (i := 0) (l := l)
    have h2 := Pure.others_cost (at_ := at_) (i := 0) (l := l)
    simp only [Q.xor_But.l0]
    rw [if_neg (by omega), he, Q.of_tells _ (Pure.others_rows hl) (by omega) k (by omega)]
    rfl
  | d + 1, i, k, acc, hd, hi, ha, he, hk => by
    obtain ⟨k, rfl⟩ : ∃ m, k = m + 1 := ⟨k - 1, by omega⟩
    rw [Q.drop_cons (show i < l.length by omega)] at he
    simp only [Pure.others] at he
    simp only [Q.xor_But.l0]
    rw [if_pos (by omega), if_pos (by omega), if_pos (by omega), Q.wrapS (by omega) (by omega), show (i : Int) + 1 = ((i + 1 : Nat) : Int) by omega]
    by_cases c : (i : Int) = at_
    · rw [if_pos c] at he ⊢
      exact but_l0' l hl hll at_ d (i + 1) k acc (by omega) (by omega) (by omega) he (by omega)
    · rw [if_neg c] at he ⊢
      rw [if_pos (by omega)]
      exact but_l0' l hl hll at_ d (i + 1) k _ (by omega) (by omega) (by simp; omega) (by rw [List.append_assoc]; exact he) (by omega)
theorem but_tells (l : List (List Int)) (hl : Q.BRows l) (hll : l.length ≤ 5864062014800) (at_ : Int) :
    Q.xor_But.f (l.length + l.length + Q.cost l + 5) l at_ = some (Q.L (Q.mlen (Pure.others at_ 0 l)) (Q.xorAt (Pure.others at_ 0 l))) :=
  but_l0' l hl hll at_ l.length 0 _ [] (by omega) (by omega) (by simp) (by rw [List.drop_zero]; rfl) (by omega)
theorem others_past {at_ : Int} : ∀ {l : List (List Int)} {i : Nat}, at_ < i → Pure.others at_ i l = l
  | [], _, _ => rfl
  | b :: r, i, h => by
    simp only [Pure.others]
    rw [if_neg (by omega), others_past (by omega)]
theorem xorAt_others : ∀ (l : List (List Int)) (s j n : Nat), j < l.length → Q.xorAt l n = Q.xorAt (Pure.others ((s + j : Nat) : Int) s l) n ^^^ Q.rdn (l.getD j []) n
  | [], _, _, _, h => by simp at h
  | b :: r, s, 0, n, _ => by
    simp only [Pure.others, Q.xorAt, Nat.add_zero]
    rw [if_pos trivial, others_past (by omega), Nat.xor_comm]
    rfl
  | b :: r, s, j + 1, n, h => by
    have ih := xorAt_others r (s + 1) j n (by simpa using h)
    simp only [Pure.others, Q.xorAt]
    rw [if_neg (by omega)]
    simp only [Q.xorAt]
    rw [ih, Nat.xor_assoc, show s + 1 + j = s + (j + 1) by omega]
    rfl
theorem others_mem {at_ : Int} : ∀ {l : List (List Int)} {i : Nat} {x : List Int}, x ∈ Pure.others at_ i l → x ∈ l
  | [], _, _, h => h
  | b :: r, i, x, h => by
    simp only [Pure.others] at h
    split at h
    · exact List.mem_cons_of_mem _ (others_mem h)
    · rcases List.mem_cons.1 h with h | h
      · rw [h]; exact List.mem_cons_self
      · exact List.mem_cons_of_mem _ (others_mem h)
theorem others_count {at_ : Int} : ∀ {l : List (List Int)} {i : Nat}, l.length ≤ (Pure.others at_ i l).length + 1
  | [], _ => by simp
  | b :: r, i => by
    simp only [Pure.others]
    split
    · rw [others_past (by omega)]; simp
    · have := others_count (at_ := at_) (l := r) (i := i + 1)
      simp; omega
theorem mlen_same {m : Nat} : ∀ {l : List (List Int)}, 0 < l.length → (∀ x ∈ l, x.length = m) → Q.mlen l = m
  | [], h, _ => by simp at h
  | b :: r, _, h => by
    simp only [Q.mlen]
    rw [h b (by simp)]
    rcases Nat.eq_zero_or_pos r.length with h0 | h0
    · rw [List.length_eq_zero_iff.1 h0]; simp [Q.mlen]
    · rw [mlen_same h0 (fun x hx => h x (by simp [hx])), Nat.max_self]
theorem L_of {b : List Int} (hb : Q.Bytes b) {f : Nat → Nat} (h : ∀ i, i < b.length → f i = Q.rdn b i) : Q.L b.length f = b := by
  apply List.ext_getElem
  · exact Q.L_length _ _
  · intro i h1 h2
    have h3 := Q.rdn_cast hb i
    unfold rd at h3
    rw [Int.toNat_natCast, List.getD_eq_getElem?_getD, List.getElem?_eq_getElem h2] at h3
    simp only [Option.getD_some] at h3
    rw [h3, ← h i h2]
    simp [Q.L]
/-- Of as many bytes each, and their parity: all in all noughts; any one is what the others are. -/
theorem back_law (es : List (List Int)) (m : Nat) (h0 : 0 < es.length) (hm : ∀ x ∈ es, x.length = m) (hb : Q.BRows es) :
    Q.mlen es = m ∧ Q.BRows (es ++ [Q.L m (Q.xorAt es)]) ∧ Q.mlen (es ++ [Q.L m (Q.xorAt es)]) = m ∧ (∀ i, Q.xorAt (es ++ [Q.L m (Q.xorAt es)]) i = 0) ∧
    ∀ j, j < es.length + 1 → Q.L (Q.mlen (Pure.others (j : Int) 0 (es ++ [Q.L m (Q.xorAt es)]))) (Q.xorAt (Pure.others (j : Int) 0 (es ++ [Q.L m (Q.xorAt es)]))) = (es ++ [Q.L m (Q.xorAt es)]).getD j [] ∧ ((es ++ [Q.L m (Q.xorAt es)]).getD j []).length = m := by
  have hm0 := mlen_same h0 hm
  obtain ⟨p, hp⟩ : ∃ p, p = Q.L m (Q.xorAt es) := ⟨_, rfl⟩
  have hpl : p.length = m := by rw [hp, Q.L_length]
  have hpb : Q.Bytes p := fun x hx => by
    rw [hp] at hx
    unfold Q.L at hx
    obtain ⟨i, -, rfl⟩ := List.mem_map.1 hx
    have := Q.xorAt_lt hb i
    omega
  have hml : m ≤ 140737488351232 := hm0 ▸ Q.mlen_le hb
  have hpr : ∀ i, Q.rdn p i = Q.xorAt es i := fun i => by
    rcases Nat.lt_or_ge i m with h | h
    · unfold Q.rdn
      rw [hp, Q.L_rd h]
      omega
    · rw [Q.rdn_out (by omega), Q.xorAt_out (by omega)]
  rw [← hp]
  have hE : Q.BRows (es ++ [p]) := BRows_app hb (fun x hx => by simp at hx; rw [hx]; exact ⟨hpb, by omega⟩)
  have hEm : ∀ x ∈ es ++ [p], x.length = m := fun x hx => by
    rcases List.mem_append.1 hx with hx | hx
    · exact hm x hx
    · simp at hx; rw [hx, hpl]
  have hz : ∀ i, Q.xorAt (es ++ [p]) i = 0 := fun i => by
    rw [xorAt_app]
    simp only [Q.xorAt]
    rw [hpr, Nat.xor_zero, Nat.xor_self]
  refine ⟨hm0, hE, mlen_same (by simp) hEm, hz, fun j hj => ?_⟩
  have hjl : j < (es ++ [p]).length := by simpa using hj
  have hget : (es ++ [p]).getD j [] ∈ es ++ [p] := by
    rw [List.getD_eq_getElem?_getD, List.getElem?_eq_getElem hjl]
    exact List.getElem_mem hjl
  have hlen := hEm _ hget
  have hoth : Q.mlen (Pure.others (j : Int) 0 (es ++ [p])) = m := by
    refine mlen_same ?_ fun x hx => hEm x (others_mem hx)
    have := others_count (at_ := (j : Int)) (l := es ++ [p]) (i := 0)
    simp at this
    omega
  refine ⟨?_, hlen⟩
  have hfin : ∀ i, Q.xorAt (Pure.others (j : Int) 0 (es ++ [p])) i = Q.rdn ((es ++ [p]).getD j []) i := fun i => by
    have h1 := xorAt_others (es ++ [p]) 0 j i hjl
    rw [hz, Nat.zero_add] at h1
    have h2 := congrArg (fun q => q ^^^ Q.rdn ((es ++ [p]).getD j []) i) h1
    simp only [Nat.xor_assoc, Nat.xor_self, Nat.xor_zero, Nat.zero_xor] at h2
    exact h2.symm
  have := L_of (hE _ hget).1 (f := Q.xorAt (Pure.others (j : Int) 0 (es ++ [p]))) (fun i _ => hfin i)
  rw [hlen] at this
  rw [hoth]
  exact this

/-! ### a copy: what fits of it, and noughts -/
def cpy (m : Nat) (b : List Int) : List Int := b.take m ++ List.replicate (m - b.length) 0
theorem cpy_len (m : Nat) (b : List Int) : (cpy m b).length = m := by simp [cpy]; omega
theorem cpy_bytes {m : Nat} {b : List Int} (h : Q.Bytes b) : Q.Bytes (cpy m b) := fun x hx => by
  rcases List.mem_append.1 hx with hx | hx
  · exact h x (List.mem_of_mem_take hx)
  · have := List.eq_of_mem_replicate hx
    omega
theorem cpy_splice (m : Nat) (b : List Int) : splice (List.replicate m (Value.int .u8 0)) 0 (byv (b.take m)) = byv (cpy m b) := by
  unfold splice cpy byv
  rw [List.take_zero, List.nil_append, Nat.zero_add, List.map_append, List.map_replicate, List.drop_replicate]
  rw [show m - (List.map (fun b => Value.int IntKind.u8 b) (List.take m b)).length = m - b.length by rw [List.length_map, List.length_take]; omega]

/-! ### the row of copies -/
structure Ow (w0 w : World) (s : Sc) : Prop where
  len : s.raw.length ≤ s.c
  rd : Rd w s.A (byv s.raw)
  own : ∀ ad, s.A = some ad → (∃ cur, Blk w ad.block 5 cur) ∧ w0.heap.size ≤ ad.block
section
variable {w0 w w' : World} {s : Sc} {l : List Sc} {v v' : Value}
theorem Ow.later (k : Ow w0 w s) (h : Below w.heap.size w w') : Ow w0 w' s := ⟨k.len, k.rd.later h, fun ad e => by
  obtain ⟨⟨cur, hb⟩, h2⟩ := k.own ad e
  exact ⟨⟨cur, hb.later h⟩, h2⟩⟩
theorem Ow.grown (k : Ow w0 w s) {row : Value} {base n : Nat} {xs : List Value} (hr : w.ownsRow base 25 1 row n xs) (hg : w.grownBy w' row.ownBlock) : Ow w0 w' s := ⟨k.len, k.rd.fr (Fr.of_grown hg) (fun ad e h => by
    obtain ⟨⟨cur, hb⟩, _⟩ := k.own ad e
    exact own_blk_ne hr hb (by decide) h), fun ad e => by
  obtain ⟨⟨cur, hb⟩, h2⟩ := k.own ad e
  exact ⟨⟨cur, hb.grown hg (fun e => own_blk_ne hr hb (by decide) e.symm)⟩, h2⟩⟩
structure Al (w0 w : World) (v : Value) (l : List Sc) : Prop where
  row : w.ownsRow w0.heap.size 25 1 v l.length (scs l)
  each : ∀ s ∈ l, Ow w0 w s
  bel : Below w0.heap.size w0 w
theorem Al.later (k : Al w0 w v l) (h : Below w.heap.size w w') : Al w0 w' v l := ⟨ownsRow_later k.row h, fun s hs => (k.each s hs).later h, k.bel.trans (h.mono k.bel.size)⟩
theorem Al.nil (w : World) : Al w w (.slice none 0 0) [] := ⟨World.ownsRow_nil _ _ _ _, fun s hs => by simp at hs, Below.refl _ _⟩
theorem Al.later' (k : Al w0 w0 v l) (h : Below w0.heap.size w0 w') : Al w0 w' v l := ⟨ownsRow_later k.row h, fun s hs => (k.each s hs).later h, h⟩
theorem Al.push (k : Al w0 w v l) (ks : Ow w0 w s) (hg : w.grownBy w' v.ownBlock) (ho : w'.ownsRow w0.heap.size 25 1 v' (l.length + 1) (scs l ++ scs [s])) : Al w0 w' v' (l ++ [s]) := by
  refine ⟨by rw [scs_app, List.length_append]; exact ho, fun x hx => ?_, k.bel.grown hg k.bel.size (fun b hb => (k.row.lt b hb).1)⟩
  rcases List.mem_append.1 hx with hx | hx
  · exact (k.each x hx).grown k.row hg
  · simp at hx
    rw [hx]
    exact ks.grown k.row hg
theorem Al.hsc (k : Al w0 w v l) (hl : ∀ s ∈ l, s.raw.length ≤ 9223372036854775807) : Hsc w l := fun s hs => ⟨(k.each s hs).len, C_of_bytes (k.each s hs).rd (hl s hs)⟩
end
theorem of_ok2 (A : Option Addr) (c : Nat) (l : List Sc) (W : World) (hr : Rd W A (scs l)) (hh : Hsc W l) (hc : l.length ≤ c) (hb : Q.BRows (rws l)) (hl : l.length ≤ 140737488351232) :
    Calls Try.prog 10 #[.slice A l.length c] W fun e w' => ∃ Aa ca, e = .returned (.slice Aa (Q.mlen (rws l)) ca) ∧ (∀ w0 : World, w0.heap.size ≤ W.heap.size → Ow w0 w' ⟨Aa, Q.L (Q.mlen (rws l)) (Q.xorAt (rws l)), ca⟩) ∧ Below W.heap.size W w' := by
  have h := Q.xor_Of.calls ((rws l).length + Q.cost (rws l) + 2) A c (rws l) _ W (C_of_rows hr hh (by omega)) (by rw [rws_len]; exact hc) (Q.of_tells (rws l) hb (by rw [rws_len]; omega) _ (Nat.le_refl _))
  rw [rws_len] at h
  refine h.mono ?_
  rintro e w' ⟨v, rfl, hR, hbel⟩
  obtain ⟨Aa, ca, rfl, hle, hC⟩ := Kd.R_reads hR
  have hRd := bytes_of_C hC
  obtain ⟨inner, ho⟩ := Kd.R_own hR
  obtain ⟨Ab, cb, e, -, -, hbk⟩ := own_formc ho
  injection e with e
  subst e
  have hty := Go.Proofs.YtnahblhjjpjnbaaW.PrintWords.own_typed ho
  refine ⟨Aa, ca, by rw [Q.L_length], fun w0 h0 => ⟨hle, hRd, fun ad e => ⟨?_, Nat.le_trans h0 (hbk ad e)⟩⟩, hbel⟩
  subst e
  rcases ho.2 with ⟨e, _⟩ | ⟨g, cap, cur, e, _, hh, _⟩
  · cases e
  · injection e with e
    injection e with e
    subst e
    exact ⟨cur, hh⟩
end Go.Proofs.Ytnahblhjjpjnbaa
