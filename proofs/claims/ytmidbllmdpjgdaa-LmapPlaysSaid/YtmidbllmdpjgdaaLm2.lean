/- The walk of lmap.Set. No further condition. -/
import Derived.Test.YtmidbllmdpjgdaaLm
namespace Go.Proofs.Ytmidbllmdpjgdaa
open Go.RowKit
attribute [local go_sem] go_max2 go_min2 go_max_two go_min_two

/-- What stands behind a block's setting. -/
def put (n : Nat) (f : Nat → Int) (x pl : Int) : Nat → Int := fun i => if 0 ≤ x ∧ x < n ∧ i = x.toNat then mxI pl (-1) + 1 else f i
/-- Which pages are there behind it. -/
def Pgs (n : Nat) (pg pg' : Nat → Option Nat) (x pl : Int) : Prop := ∀ p, (pg' p).isSome = ((pg p).isSome || decide (0 ≤ x ∧ x < n ∧ 0 ≤ pl ∧ p = x.toNat / 16))
def upv (f : Nat → Int) (i : Nat) (v : Int) : Nat → Int := fun x => if x = i then v else f x
theorem put_in {n i : Nat} (f : Nat → Int) (pl : Int) (hi : i < n) : put n f i pl = upv f i (mxI pl (-1) + 1) := by
  funext x
  unfold put upv
  by_cases hx : x = i
  · subst hx
    rw [if_pos ⟨by omega, by omega, by omega⟩, if_pos rfl]
  · rw [if_neg (by intro h; apply hx; have := h.2.2; simpa using this), if_neg hx]
theorem pagev_set (f : Nat → Int) (p j : Nat) (v : Int) (hj : j < 16) : (pagev f p).setIfInBounds j (.int .i64 v) = pagev (upv f (16 * p + j) v) p := by
  apply Array.ext_getElem?
  intro q
  simp only [pagev, Array.getElem?_setIfInBounds, List.size_toArray, List.length_map, List.length_range, List.getElem?_toArray, List.getElem?_map]
  rcases Nat.lt_or_ge q 16 with hq | hq
  · rw [List.getElem?_range hq]
    by_cases h : j = q
    · subst h
      simp [upv, hj]
    · simp only [if_neg h, Option.map_some, upv]
      rw [if_neg (by omega)]
  · rw [List.getElem?_eq_none (by simpa using hq), if_neg (by omega)]
    rfl
theorem pagev_far (f : Nat → Int) (p q j : Nat) (v : Int) (hj : j < 16) (h : q ≠ p) : pagev (upv f (16 * p + j) v) q = pagev f q := by
  unfold pagev upv
  congr 1
  apply List.map_congr_left
  intro a ha
  rw [if_neg (by have := List.mem_range.1 ha; omega)]
theorem rowv_set (pg : Nat → Option Nat) (np p b : Nat) : (rowv pg np).setIfInBounds p (.pointer (some ⟨b, 0, none⟩)) = rowv (fun q => if q = p then some b else pg q) np := by
  apply Array.ext_getElem?
  intro q
  simp only [rowv, Array.getElem?_setIfInBounds, List.size_toArray, List.length_map, List.length_range, List.getElem?_toArray, List.getElem?_map]
  rcases Nat.lt_or_ge q np with hq | hq
  · rw [List.getElem?_range hq]
    by_cases h : p = q
    · subst h
      simp [hq, ptrv]
    · simp only [if_neg h, Option.map_some]
      rw [if_neg (Ne.symm h)]
  · rw [List.getElem?_eq_none (by simpa using hq)]
    by_cases h : p = q
    · rw [if_pos h, if_neg (by omega)]
      rfl
    · rw [if_neg h]
      rfl
theorem page_zero (f : Nat → Int) (p j : Nat) (v : Int) (hj : j < 16) (h0 : ∀ j, j < 16 → f (16 * p + j) = 0) :
    ([Value.int .i64 0, .int .i64 0, .int .i64 0, .int .i64 0, .int .i64 0, .int .i64 0, .int .i64 0, .int .i64 0, .int .i64 0, .int .i64 0, .int .i64 0, .int .i64 0, .int .i64 0, .int .i64 0, .int .i64 0, .int .i64 0].set j (.int .i64 v)).toArray = pagev (upv f (16 * p + j) v) p := by
  rw [← pagev_set f p j v hj]
  have : pagev f p = [Value.int .i64 0, .int .i64 0, .int .i64 0, .int .i64 0, .int .i64 0, .int .i64 0, .int .i64 0, .int .i64 0, .int .i64 0, .int .i64 0, .int .i64 0, .int .i64 0, .int .i64 0, .int .i64 0, .int .i64 0, .int .i64 0].toArray := by
    have e : pagev f p = ((List.range 16).map fun _ => Value.int .i64 0).toArray := by
      unfold pagev
      congr 1
      apply List.map_congr_left
      intro a ha
      rw [h0 a (List.mem_range.1 ha)]
    rw [e]
    rfl
  rw [this]
  simp
section
variable {w : World} {B g rb n np : Nat} {pg : Nat → Option Nat} {f : Nat → Int}
theorem cnt_upv_out {f : Nat → Int} {i : Nat} {v : Int} : ∀ {n : Nat}, n ≤ i → cnt (upv f i v) n = cnt f n := by
  intro n
  induction n with
  | zero => intro _; rfl
  | succ n ih =>
    intro h
    have e : upv f i v n = f n := by unfold upv; rw [if_neg (by omega)]
    unfold cnt
    rw [ih (by omega), e]
theorem cnt_upv {f : Nat → Int} {i : Nat} {v : Int} : ∀ {n : Nat}, i < n → (cnt (upv f i v) n : Int) = cnt f n + (if 0 < v then 1 else 0) - (if 0 < f i then 1 else 0) := by
  intro n
  induction n with
  | zero => intro h; omega
  | succ n ih =>
    intro h
    by_cases hi : i = n
    · subst hi
      unfold cnt
      rw [cnt_upv_out (Nat.le_refl _)]
      have : upv f i v i = v := by unfold upv; rw [if_pos rfl]
      rw [this]
      by_cases h1 : 0 < v <;> by_cases h2 : 0 < f i <;> simp only [h1, h2, if_true, if_false] <;> omega
    · have := ih (by omega)
      have e : upv f i v n = f n := by unfold upv; rw [if_neg (by omega)]
      unfold cnt
      rw [e]
      by_cases h1 : 0 < v <;> by_cases h2 : 0 < f i <;> by_cases h3 : 0 < f n <;> simp only [h1, h2, h3, if_true, if_false] at this ⊢ <;> omega
/-- The map behind a store into a page that is there (m: how many lie somewhere then). -/
theorem Lm.store (k : Lm w B g rb n np pg f) {w' : World} {p b j : Nat} {v : Int} (hp : pg p = some b) (hj : j < 16) (v0 : 0 ≤ v) (v1 : v ≤ 70000)
    (ho : Blk w' g 47 #[.int .i64 n, .slice (some ⟨rb, 0, none⟩) np np, .int .i64 (cnt (upv f (16 * p + j) v) n : Int)]) (hb : Blk w' b 49 ((pagev f p).setIfInBounds j (.int .i64 v))) (hf : Fr (fun x => x = g ∨ x = b) w w') : Lm w' B g rb n np pg (upv f (16 * p + j) v) :=
  { k with
    own := ho
    row := k.row.fr hf (by rintro (h | h); exact k.row.ne_ k.own (by decide) h; exact k.row.ne_ (k.page p b hp) (by decide) h)
    page := fun q c e => by
      by_cases hq : q = p
      · subst hq
        rw [hp] at e
        injection e with e
        subst e
        rw [← pagev_set f q j v hj]
        exact hb
      · rw [pagev_far f p q j v hj hq]
        refine (k.page q c e).fr hf ?_
        rintro (h | h)
        · exact (k.page q c e).ne_ k.own (by decide) h
        · exact hq (k.inj q p b (by rw [e]; exact congrArg some h) hp)
    nil0 := fun q e a ha => by
      unfold upv
      rw [if_neg]
      · exact k.nil0 q e a ha
      · intro h
        have : q = p := by omega
        subst this
        rw [hp] at e
        cases e
    lo := fun i => by unfold upv; split; exact v0; exact k.lo i
    hi := fun i => by unfold upv; split; exact v1; exact k.hi i }
theorem Lm.fresh (k : Lm w B g rb n np pg f) {p j : Nat} {v : Int} (hp : pg p = none) (hpn : p < np) (hj : j < 16) (v0 : 0 ≤ v) (v1 : v ≤ 70000) (hB : B ≤ w.heap.size) :
    Lm (((w.setCell ⟨rb, p, none⟩ (.pointer (some ⟨w.heap.size, 0, none⟩))).setCell ⟨g, 2, none⟩ (.int .i64 (cnt (upv f (16 * p + j) v) n : Int))).alloc (.cells (pagev (upv f (16 * p + j) v) p) 49)) B g rb n np (fun q => if q = p then some w.heap.size else pg q) (upv f (16 * p + j) v) :=
  { k with
    own := ((k.own.far (k.own.ne_ k.row (by decide)) _).set_ 2 _).alloc _
    row := by
      rw [← rowv_set]
      exact (((k.row.set_ p _).far (k.row.ne_ k.own (by decide)) _).alloc _)
    page := fun q c e => by
      by_cases hq : q = p
      · subst hq
        rw [if_pos rfl] at e
        injection e with e
        subst e
        exact Blk.new_ _ _ _ (by simp [World.setCell])
      · rw [if_neg hq] at e
        rw [pagev_far f p q j v hj hq]
        exact (((k.page q c e).far ((k.page q c e).ne_ k.row (by decide)) _).far ((k.page q c e).ne_ k.own (by decide)) _).alloc _
    nil0 := fun q e a ha => by
      by_cases hq : q = p
      · subst hq
        rw [if_pos rfl] at e
        cases e
      · rw [if_neg hq] at e
        unfold upv
        rw [if_neg (by omega)]
        exact k.nil0 q e a ha
    inj := fun q r c e1 e2 => by
      have hlt : ∀ q c, pg q = some c → c < w.heap.size := fun q c e => (k.page q c e).lt
      by_cases hq : q = p <;> by_cases hr : r = p
      · rw [hq, hr]
      · rw [if_pos hq] at e1
        rw [if_neg hr] at e2
        injection e1 with e1
        have := hlt r c e2
        omega
      · rw [if_neg hq] at e1
        rw [if_pos hr] at e2
        injection e2 with e2
        have := hlt q c e1
        omega
      · rw [if_neg hq] at e1
        rw [if_neg hr] at e2
        exact k.inj q r c e1 e2
    bp := fun q c e => by
      by_cases hq : q = p
      · rw [if_pos hq] at e
        injection e with e
        omega
      · rw [if_neg hq] at e
        exact k.bp q c e
    up := fun q c e => by
      by_cases hq : q = p
      · omega
      · rw [if_neg hq] at e
        exact k.up q c e
    lo := fun i => by unfold upv; split; exact v0; exact k.lo i
    hi := fun i => by unfold upv; split; exact v1; exact k.hi i }
end
set_option maxRecDepth 100000 in
set_option maxHeartbeats 3200000 in
theorem set_ok (B g rb n np : Nat) (pg : Nat → Option Nat) (f : Nat → Int) (x pl : Int) (w : World) (k : Lm w B g rb n np pg f) (p0 : -70000 ≤ pl) (p1 : pl < 70000) :
    Calls Try.prog 9 #[.pointer (some ⟨g, 0, none⟩), .int .i64 x, .int .i64 pl] w fun e w' => e = .returned (.int .i64 (gv n f x)) ∧ ∃ pg', Lm w' B g rb n np pg' (put n f x pl) ∧ Pgs n pg pg' x pl ∧ Fr (LmS g rb pg) w w' := by
  obtain ⟨c0, c1, c2⟩ := k.cells
  have hfew := k.few
  have HG := Lib.hid (get_ok B g rb n np pg f x w k)
  rcases Int.lt_or_le x 0 with hx | hx
  · have e1 : put n f x pl = f := by unfold put; funext i; rw [if_neg (by omega)]
    have e3 : Pgs n pg pg x pl := fun p => by rw [show decide (0 ≤ x ∧ x < n ∧ 0 ≤ pl ∧ p = x.toNat / 16) = false from decide_eq_false (by omega)]; simp
    rw [e1]
    have HK := Lib.hid k
    have HE := Lib.hid e3
    clear k e1 e3
    go_enter Try.func9, Try.ntmps9
    go_wp2_with (go_at_call 10; refine HG.out.mono ?_; rintro e w' ⟨rfl, rfl⟩)
    go_ret
    exact ⟨rfl, pg, HK.out, HE.out, Fr.refl _ _⟩
  rcases Int.lt_or_le x n with hn | hn
  · obtain ⟨i, rfl⟩ := Int.eq_ofNat_of_zero_le hx
    have hin : i < n := by omega
    rw [gv_in hin] at HG ⊢
    have l0 := k.lo i
    have l1 := k.hi i
    have cl := cnt_le f n
    by_cases hC : pl < 0 ∧ f i - 1 < 0
    · obtain ⟨hC1, hC2⟩ := hC
      have e1 : put n f i pl = f := by
        rw [put_in f pl hin]
        funext x
        unfold upv
        split
        · rename_i hx
          subst hx
          unfold mxI
          split <;> omega
        · rfl
      have e3 : Pgs n pg pg i pl := fun p => by rw [show decide (0 ≤ (i : Int) ∧ (i : Int) < n ∧ 0 ≤ pl ∧ p = (i : Int).toNat / 16) = false from decide_eq_false (by omega)]; simp
      rw [e1]
      have HK := Lib.hid k
      have HE := Lib.hid e3
      clear k e1 e3
      go_enter Try.func9, Try.ntmps9
      go_wp2_with (go_at_call 10; refine HG.out.mono ?_; rintro e w' ⟨rfl, rfl⟩)
      go_ret
      exact ⟨rfl, pg, HK.out, HE.out, Fr.refl _ _⟩
    · have hpn : i / 16 < np := by have := k.np1; omega
      have hpb : i / 16 ≤ 1000 := by omega
      have g1 : ((i / 16 : Nat) : Int) < np := by omega
      have hi16 : 16 * (i / 16) + i % 16 = i := by omega
      have d0 := k.ptr hpn
      have hj : i % 16 < 16 := Nat.mod_lt _ (by decide)
      have hmx : 0 ≤ mxI pl (-1) + 1 ∧ mxI pl (-1) + 1 ≤ 70000 ∧ (0 < mxI pl (-1) + 1 ↔ 0 ≤ pl) := by unfold mxI; split <;> omega
      have HCN : Hid ((cnt (upv f i (mxI pl (-1) + 1)) n : Int) = cnt f n + (if 0 ≤ pl then 1 else 0) - (if 0 < f i then 1 else 0)) := Lib.hid (by
        rw [cnt_upv hin]
        simp only [hmx.2.2])
      have n1 : g ≠ rb := k.own.ne_ k.row (by decide)
      have n2 : rb ≠ g := n1.symm
      have t1 := k.own.lt
      have t2 := k.row.lt
      have HMX := Lib.hid hmx
      have hmx1 := hmx.1
      have hmx2 := hmx.2.1
      have HI := Lib.hid hi16
      have hfg := k.own.frozen 2
      rcases hp : pg (i / 16) with _ | b
      · have h0 := k.nil0 _ hp _ hj
        rw [hi16] at h0
        rw [hp, ptrv_none] at d0
        rw [h0] at HG hC l0 l1 HCN ⊢
        have hpl : 0 ≤ pl := by omega
        rw [if_pos hpl] at HCN
        have HK := Lib.hid k
        have HP := Lib.hid hp
        have hfr := k.row.frozen (i / 16)
        have n3 : w.heap.size ≠ g := by omega
        have n4 : w.heap.size ≠ rb := by omega
        have n5 : g ≠ w.heap.size := by omega
        have n6 : rb ≠ w.heap.size := by omega
        clear k h0 hp hmx hi16
        go_enter Try.func9, Try.ntmps9
        go_wp2_with (go_at_call 10; refine HG.out.mono ?_; rintro e w' ⟨rfl, rfl⟩)
        go_ret
        refine ⟨rfl, (fun q => if q = i / 16 then some w'.heap.size else pg q), ?_, ?_, ?_⟩
        · rw [put_in f pl hin, page_zero f (i / 16) (i % 16) _ hj (HK.out.nil0 _ HP.out)]
          have := HK.out.fresh (p := i / 16) (j := i % 16) (v := mxI pl (-1) + 1) HP.out hpn hj HMX.out.1 HMX.out.2.1 (Nat.le_trans HK.out.bg (Nat.le_of_lt t1))
          rw [HI.out, HCN.out] at this
          rw [HI.out]
          simpa using this
        · intro p
          by_cases hpp : p = i / 16
          · subst hpp
            simp [hpl, hin]
          · simp only [if_neg hpp]
            rw [show decide (0 ≤ (i : Int) ∧ (i : Int) < n ∧ 0 ≤ pl ∧ p = (i : Int).toNat / 16) = false from decide_eq_false (by rw [Int.toNat_natCast]; omega)]
            simp
        · exact (((Fr.refl _ _).setCell (p := ⟨rb, i / 16, none⟩) (.inl (.inr (.inl rfl))) _).setCell (p := ⟨g, 2, none⟩) (.inl (.inl rfl)) _).alloc _
      · have e0 := k.cell hp hj
        rw [hi16] at e0
        rw [hp, ptrv_some] at d0
        have HK := Lib.hid k
        have HP := Lib.hid hp
        have hfb := (k.page _ b hp).frozen (i % 16)
        have n3 : b ≠ g := (k.page _ b hp).ne_ k.own (by decide)
        have n4 : b ≠ rb := (k.page _ b hp).ne_ k.row (by decide)
        have n5 := n3.symm
        have n6 := n4.symm
        have e3 : Pgs n pg pg i pl := fun p => by
          by_cases hpp : p = i / 16
          · subst hpp
            rw [hp]
            simp
          · rw [show decide (0 ≤ (i : Int) ∧ (i : Int) < n ∧ 0 ≤ pl ∧ p = (i : Int).toNat / 16) = false from decide_eq_false (by rw [Int.toNat_natCast]; omega)]
            simp
        have HE := Lib.hid e3
        clear k hp hmx hi16 e3
        rcases Int.lt_or_le (f i - 1) 0 with hold | hold
        · have hpl : 0 ≤ pl := by omega
          rw [if_pos hpl, if_neg (by omega)] at HCN
          go_enter Try.func9, Try.ntmps9
          go_wp2_with (go_at_call 10; refine HG.out.mono ?_; rintro e w' ⟨rfl, rfl⟩)
          go_ret
          refine ⟨rfl, pg, ?_, HE.out, ((Fr.refl _ _).setCell (p := ⟨g, 2, none⟩) (.inl (.inl rfl)) _).setCell (p := ⟨b, i % 16, none⟩) (.inl (.inr (.inr ⟨_, HP.out⟩))) _⟩
          rw [put_in f pl hin]
          have := HK.out.store (p := i / 16) (j := i % 16) (v := mxI pl (-1) + 1) HP.out hj HMX.out.1 HMX.out.2.1 (w' := (w'.setCell ⟨g, 2, none⟩ (.int .i64 ((cnt f n : Int) + 1))).setCell ⟨b, i % 16, none⟩ (.int .i64 (mxI pl (-1) + 1)))
            (by rw [HI.out, HCN.out]; simpa using (HK.out.own.set_ 2 (.int .i64 ((cnt f n : Int) + 1))).far (p := ⟨b, i % 16, none⟩) n5 (.int .i64 (mxI pl (-1) + 1)))
            (((HK.out.page _ b HP.out).far (p := ⟨g, 2, none⟩) n3 _).set_ _ _)
            (((Fr.refl _ _).setCell (p := ⟨g, 2, none⟩) (.inl (.inl rfl)) _).setCell (p := ⟨b, i % 16, none⟩) (.inl (.inr rfl)) _)
          rw [HI.out] at this
          exact this
        · rcases Int.lt_or_le pl 0 with hpl | hpl
          · rw [if_neg (by omega), if_pos (by omega)] at HCN
            have hc1 : 1 ≤ cnt f n := by
              have h1 := HCN.out
              omega
            go_enter Try.func9, Try.ntmps9
            go_wp2_with (go_at_call 10; refine HG.out.mono ?_; rintro e w' ⟨rfl, rfl⟩)
            go_ret
            refine ⟨rfl, pg, ?_, HE.out, ((Fr.refl _ _).setCell (p := ⟨g, 2, none⟩) (.inl (.inl rfl)) _).setCell (p := ⟨b, i % 16, none⟩) (.inl (.inr (.inr ⟨_, HP.out⟩))) _⟩
            rw [put_in f pl hin]
            have := HK.out.store (p := i / 16) (j := i % 16) (v := mxI pl (-1) + 1) HP.out hj HMX.out.1 HMX.out.2.1 (w' := (w'.setCell ⟨g, 2, none⟩ (.int .i64 ((cnt f n : Int) - 1))).setCell ⟨b, i % 16, none⟩ (.int .i64 (mxI pl (-1) + 1)))
              (by rw [HI.out, HCN.out]; simpa using (HK.out.own.set_ 2 (.int .i64 ((cnt f n : Int) - 1))).far (p := ⟨b, i % 16, none⟩) n5 (.int .i64 (mxI pl (-1) + 1)))
              (((HK.out.page _ b HP.out).far (p := ⟨g, 2, none⟩) n3 _).set_ _ _)
              (((Fr.refl _ _).setCell (p := ⟨g, 2, none⟩) (.inl (.inl rfl)) _).setCell (p := ⟨b, i % 16, none⟩) (.inl (.inr rfl)) _)
            rw [HI.out] at this
            exact this
          · rw [if_pos hpl, if_pos (by omega)] at HCN
            go_enter Try.func9, Try.ntmps9
            go_wp2_with (go_at_call 10; refine HG.out.mono ?_; rintro e w' ⟨rfl, rfl⟩)
            go_ret
            refine ⟨rfl, pg, ?_, HE.out, (Fr.refl _ _).setCell (p := ⟨b, i % 16, none⟩) (.inl (.inr (.inr ⟨_, HP.out⟩))) _⟩
            rw [put_in f pl hin]
            have := HK.out.store (p := i / 16) (j := i % 16) (v := mxI pl (-1) + 1) HP.out hj HMX.out.1 HMX.out.2.1 (w' := w'.setCell ⟨b, i % 16, none⟩ (.int .i64 (mxI pl (-1) + 1)))
              (by rw [HI.out, HCN.out, Int.add_sub_cancel]; exact HK.out.own.far (p := ⟨b, i % 16, none⟩) n5 (.int .i64 (mxI pl (-1) + 1)))
              ((HK.out.page _ b HP.out).set_ _ _)
              ((Fr.refl _ _).setCell (p := ⟨b, i % 16, none⟩) (.inl (.inr rfl)) _)
            rw [HI.out] at this
            exact this
  · have e1 : put n f x pl = f := by unfold put; funext i; rw [if_neg (by omega)]
    have e3 : Pgs n pg pg x pl := fun p => by rw [show decide (0 ≤ x ∧ x < n ∧ 0 ≤ pl ∧ p = x.toNat / 16) = false from decide_eq_false (by omega)]; simp
    rw [e1]
    have HK := Lib.hid k
    have HE := Lib.hid e3
    clear k e1 e3
    go_enter Try.func9, Try.ntmps9
    go_wp2_with (go_at_call 10; refine HG.out.mono ?_; rintro e w' ⟨rfl, rfl⟩)
    go_ret
    exact ⟨rfl, pg, HK.out, HE.out, Fr.refl _ _⟩
end Go.Proofs.Ytmidbllmdpjgdaa
