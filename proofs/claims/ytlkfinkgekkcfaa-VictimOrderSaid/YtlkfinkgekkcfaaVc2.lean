/- The walk of Choose. No further condition. -/
import Derived.Test.YtlkfinkgekkcfaaTb3
import Derived.Test.YtlkfinkgekkcfaaVic
namespace Go.Proofs.Ytlkfinkgekkcfaa
open Go.RowKit
attribute [local go_sem ↓] Go.wp_at_zero Go.wp_at_succ

/-! ### plain -/
theorem better_any (p : Int) (a b : Sg) (blocks now : Int) (w : World) (ha : Wf a) (hb : Wf b) (k : 0 ≤ now) (k2 : now ≤ 18446744073709551615) :
    Calls Try.prog 10 #[.int .i64 p, .agg #[.int .i64 a.1, .int .i64 a.2.1, .int .u64 a.2.2], .agg #[.int .i64 b.1, .int .i64 b.2.1, .int .u64 b.2.2], .int .i64 blocks, .int .u64 now] w
      fun e w' => e = .returned (.bool (better p a b blocks now)) ∧ Below w.heap.size w w' := by
  by_cases hp : p = 1
  · subst hp; exact better_yes a b blocks now w ha hb k k2
  · exact better_no p a b blocks now w hp
/-- The best of the first ones, as Choose keeps them: their numbers. -/
def step (p blocks now : Int) (l : List Sg) (best : List Nat) (i : Nat) (s : Sg) : List Nat :=
  if s.1 = 2 then
    match best with
    | [] => [i]
    | b :: _ => if better p s (l.getD b (0, 0, 0)) blocks now then [i] else if better p (l.getD b (0, 0, 0)) s blocks now then best else best ++ [i]
  else best
def bests (p blocks now : Int) (l : List Sg) : Nat → List Nat
  | 0 => []
  | k + 1 => step p blocks now l (bests p blocks now l k) k (l.getD k (0, 0, 0))
theorem bests_lt (p blocks now : Int) (l : List Sg) : ∀ k, ∀ b ∈ bests p blocks now l k, b < k := by
  intro k
  induction k with
  | zero => intro b hb; simp [bests] at hb
  | succ k ih =>
    intro b hb
    unfold bests step at hb
    split at hb
    · split at hb
      · simp at hb; omega
      · rename_i c cs hc
        split at hb
        · simp at hb; omega
        · split at hb
          · exact Nat.lt_succ_of_lt (ih b hb)
          · rcases List.mem_append.1 hb with h | h
            · exact Nat.lt_succ_of_lt (ih b h)
            · simp at h; omega
    · exact Nat.lt_succ_of_lt (ih b hb)
theorem bests_len (p blocks now : Int) (l : List Sg) : ∀ k, (bests p blocks now l k).length ≤ k := by
  intro k
  induction k with
  | zero => simp [bests]
  | succ k ih =>
    unfold bests step
    split
    · split
      · simp
      · split
        · simp
        · split
          · omega
          · simp; omega
    · omega
/-- What Choose answers. -/
def chosen (p blocks now tie : Int) (l : List Sg) : Int :=
  if (bests p blocks now l l.length).length = 0 then -1 else (((bests p blocks now l l.length).getD ((tie % 18446744073709551616) % ((bests p blocks now l l.length).length : Int)).toNat 0 : Nat) : Int)

def intsOf (l : List Nat) : List Value := l.map fun b : Nat => .int .i64 (b : Int)
theorem bests_skip {p blocks now : Int} {l : List Sg} {k : Nat} {x : Sg} (hx : l[k]? = some x) (h : x.1 ≠ 2) : bests p blocks now l (k + 1) = bests p blocks now l k := by
  have e : l.getD k (0, 0, 0) = x := by rw [List.getD_eq_getElem?_getD, hx]; rfl
  rw [bests, e]
  unfold step
  rw [if_neg h]
theorem bests_one {p blocks now : Int} {l : List Sg} {k : Nat} {x : Sg} (hx : l[k]? = some x) (h : x.1 = 2) (hb : bests p blocks now l k = []) : bests p blocks now l (k + 1) = [k] := by
  have e : l.getD k (0, 0, 0) = x := by rw [List.getD_eq_getElem?_getD, hx]; rfl
  rw [bests, e]
  unfold step
  rw [if_pos h, hb]
theorem bests_more {p blocks now : Int} {l : List Sg} {k b : Nat} {x y : Sg} {bs : List Nat} (hx : l[k]? = some x) (hy : l[b]? = some y) (h : x.1 = 2) (hb : bests p blocks now l k = b :: bs) :
    bests p blocks now l (k + 1) = if better p x y blocks now then [k] else if better p y x blocks now then b :: bs else (b :: bs) ++ [k] := by
  have e : l.getD k (0, 0, 0) = x := by rw [List.getD_eq_getElem?_getD, hx]; rfl
  have e2 : l.getD b (0, 0, 0) = y := by rw [List.getD_eq_getElem?_getD, hy]; rfl
  rw [bests, e]
  unfold step
  rw [if_pos h, hb]
  simp only [e2]
/-- What holds while Choose looks. -/
structure CS (w0 W : World) (g h : Nat) (l : List Sg) (sv : Value) (bv : Value) (best : List Nat) : Prop where
  below : Below w0.heap.size w0 W
  tab : Tab W g h l
  own2 : W.ownsRow w0.heap.size 25 3 sv l.length (sgs l)
  own : W.ownsRow w0.heap.size 3 1 bv best.length (intsOf best)
theorem CS.later {w0 W W' : World} {g h : Nat} {l : List Sg} {sv : Value} {bv : Value} {best : List Nat} (k : CS w0 W g h l sv bv best) (hb : Below W.heap.size W W') : CS w0 W' g h l sv bv best :=
  ⟨k.below.trans (hb.mono k.below.size), k.tab.later hb, ownsRow_later k.own2 hb, ownsRow_later k.own hb⟩
theorem CS.drew {w0 W : World} {g h : Nat} {l : List Sg} {sv : Value} {bv : Value} {best : List Nat} (k : CS w0 W g h l sv bv best) : CS w0 W.drew g h l sv bv best := k.later (Below.refl _ _).drew
theorem CS.drewN {w0 W : World} {g h : Nat} {l : List Sg} {sv : Value} {bv : Value} {best : List Nat} (k : CS w0 W g h l sv bv best) (n : Nat) : CS w0 (W.drewN n) g h l sv bv best := k.later (below_drewN (Below.refl _ _) n)
/-- The same, with the segment at hand in a box. -/
structure CB (w0 W : World) (g h : Nat) (l : List Sg) (sv : Value) (bv : Value) (best : List Nat) (sb : Nat) (x : Sg) : Prop where
  cs : CS w0 W g h l sv bv best
  box : Blk W sb 25 #[.int .i64 x.1, .int .i64 x.2.1, .int .u64 x.2.2]
theorem CB.later {w0 W W' : World} {g h : Nat} {l : List Sg} {sv : Value} {bv : Value} {best : List Nat} {sb : Nat} {x : Sg} (k : CB w0 W g h l sv bv best sb x) (hb : Below W.heap.size W W') : CB w0 W' g h l sv bv best sb x := ⟨k.cs.later hb, k.box.later hb⟩
theorem CB.cells {w0 W : World} {g h : Nat} {l : List Sg} {sv : Value} {gb n c : Nat} {b : Nat} {bs : List Nat} {sb : Nat} {x : Sg} (k : CB w0 W g h l sv (.slice (some ⟨gb, 0, none⟩) n c) (b :: bs) sb x) :
    W.cell? ⟨sb, 0, none⟩ = some (.int .i64 x.1) ∧ W.cell? ⟨sb, 1, none⟩ = some (.int .i64 x.2.1) ∧ W.cell? ⟨sb, 2, none⟩ = some (.int .u64 x.2.2) ∧ W.cell? ⟨gb, 0, none⟩ = some (.int .i64 b) := by
  obtain ⟨c0, c1, c2⟩ := k.box.cells3
  refine ⟨c0, c1, c2, ?_⟩
  have ho := k.cs.own
  obtain ⟨g', cap, cur, he, _, hbk, hl, hx⟩ := own_block ho (by simp)
  injection he with he _ _
  injection he with he
  injection he with he
  subst he
  rw [hbk.cell]
  have h0 : (cur.toList.take ((b :: bs).length * 1))[0]? = (intsOf (b :: bs))[0]? := by rw [hx]
  rw [List.getElem?_take_of_lt (by simp)] at h0
  rw [← Array.getElem?_toList, h0]
  rfl
/-- best = []int{i} -/
theorem CS.fresh {w0 W : World} {g h : Nat} {l : List Sg} {sv : Value} {bv : Value} {best : List Nat} (k : CS w0 W g h l sv bv best) (i : Nat) :
    CS w0 (W.alloc (.cells #[.int .i64 (i : Int)] 3)) g h l sv (.slice (some ⟨W.heap.size, 0, none⟩) 1 1) [i] := by
  have hb := (Below.refl W.heap.size W).alloc (Nat.le_refl _) (.cells #[.int .i64 (i : Int)] 3)
  have k' := k.later hb
  exact ⟨k'.below, k'.tab, k'.own2, rfl, .inr ⟨W.heap.size, 1, #[.int .i64 (i : Int)], rfl, k.below.size, Blk.new _ _ _, Nat.le_refl _, by unfold maxLen; omega, rfl, rfl⟩⟩
theorem CS.app {w0 W W' : World} {g h : Nat} {l : List Sg} {sv : Value} {bv bv' : Value} {best : List Nat} {i : Nat} (k : CS w0 W g h l sv bv best) (hg : W.grownBy W' bv.ownBlock)
    (ho : W'.ownsRow w0.heap.size 3 1 bv' (best.length + 1) (intsOf best ++ [.int .i64 (i : Int)])) : CS w0 W' g h l sv bv' (best ++ [i]) := by
  have f := Fr.of_grown hg
  refine ⟨k.below.grown hg k.below.size fun b hb => (k.own.lt b hb).1, k.tab.fr f (fun e => own_blk_ne k.own k.tab.own (by decide) e) (fun e => own_blk_ne k.own k.tab.row (by decide) e), ownsRow_fr k.own2 f (own_own_ne k.own2 k.own (by decide)), by simpa [intsOf] using ho⟩
set_option maxHeartbeats 6400000 in
theorem choose_ok (p : Int) (g h : Nat) (blocks now tie : Int) (l : List Sg) (w : World) (ht : Tab w g h l) (hw : ∀ s ∈ l, Wf s) (kn : 0 ≤ now) (kn2 : now ≤ 18446744073709551615) :
    Calls Try.prog 13 #[.int .i64 p, .pointer (some ⟨g, 0, none⟩), .int .i64 blocks, .int .u64 now, .int .i64 tie] w fun e w' => e = .returned (.int .i64 (chosen p blocks now tie l)) ∧ Below w.heap.size w w' := by
  have hf := ht.few
  obtain ⟨i0, hi0, hz0, hz1, hz2⟩ := info_parts (show (Try.prog.info? 3).map (fun i => (i.zero, i.size, i.bytes)) = some (some (.int .i64 0), 1, 8) by kernel_rfl)
  obtain ⟨r, hr⟩ : ∃ r, r = chosen p blocks now tie l := ⟨_, rfl⟩
  rw [← hr]
  have HR := Lib.hid hr
  clear hr
  go_enter Try.func13, Try.ntmps13
  go_wp2_with fail
  refine (all_ok g h l w ht).mono ?_
  rintro e w1 ⟨va, rfl, hoa, hba⟩
  obtain ⟨A, ca, rfl, za, rda⟩ := own_form hoa
  have hC : CS w w1 g h l (.slice A l.length ca) (.slice none 0 0) (bests p blocks now l 0) := (⟨hba, ht.later hba, hoa, World.ownsRow_nil _ _ _ _⟩ : CS w w1 g h l (.slice A l.length ca) (.slice none 0 0) [])
  go_wp2_with fail
  clear hoa hba rda ht
  go_loopw [11, 17] (fun bv i wr => ∃ k : Nat, k ≤ l.length ∧ i = .int .i64 k ∧ CS w wr g h l (.slice A l.length ca) bv (bests p blocks now l k)) (fun _ i _ => l.length - (intOf i).toNat)
  case atStart => exact ⟨0, by omega, rfl, hC⟩
  case round =>
    clear hC
    obtain ⟨k, hk, rfl, hC⟩ := hrel
    have hbl := bests_len p blocks now l k
    have hblt := bests_lt p blocks now l k
    by_cases hlt : k < l.length
    · obtain ⟨x, hx⟩ : ∃ x, l[k]? = some x := ⟨_, List.getElem?_eq_getElem hlt⟩
      have rdA := Rd.of_own hC.own2
      obtain ⟨ad, rfl, a0⟩ := rdA (k * 3) _ ((sgs_get l k 0 x (by decide) hx).trans rfl)
      obtain ⟨_, e1, a1⟩ := rdA (k * 3 + 1) _ ((sgs_get l k 1 x (by decide) hx).trans rfl)
      cases e1
      obtain ⟨_, e2, a2⟩ := rdA (k * 3 + 2) _ ((sgs_get l k 2 x (by decide) hx).trans rfl)
      cases e2
      obtain ⟨h1, rfl⟩ := za _ rfl
      simp only [add_zero_addr, Nat.zero_add] at a0 a1 a2
      have hwx := hw x (List.mem_of_getElem? hx)
      have hbW := Blk.new wr 25 #[.int .i64 x.1, .int .i64 x.2.1, .int .u64 x.2.2]
      have hCW := hC.later ((Below.refl wr.heap.size wr).alloc (Nat.le_refl _) (.cells #[.int .i64 x.1, .int .i64 x.2.1, .int .u64 x.2.2] 25))
      obtain ⟨W, hW⟩ : ∃ W, W = wr.alloc (.cells #[.int .i64 x.1, .int .i64 x.2.1, .int .u64 x.2.2] 25) := ⟨_, rfl⟩
      rw [← hW] at hbW hCW
      have HW := Lib.hid hW
      have HC := Lib.hid hCW
      have HBW := Lib.hid hbW
      have HX := Lib.hid hx
      clear hC hW hx hCW hbW
      by_cases hst : x.1 = 2
      · rcases hbe : bests p blocks now l k with _ | ⟨b, bs⟩
        · rw [hbe] at HC hbl
          have hd : (x.1 == 2) = true := by simp [hst]
          have hd2 : (x.1 != 2) = false := by simp [hst]
          have HE := Lib.hid (bests_one (p := p) (blocks := blocks) (now := now) HX.out hst hbe)
          have hown := HC.out.own
          obtain ⟨A1, c1, rfl, -, -⟩ := own_form hown
          have hz : ([] : List Nat).length = 0 := rfl
          clear hst hbe hown hblt
          go_wp2
          rw [← HW.out]
          go_quiet (fail)
          go_wp2
          go_roundw
          case rel => exact ⟨k + 1, by omega, by go_num, by rw [HE.out]; exact (HC.out.drewN _).fresh k⟩
          case measure => simp [intOf]; omega
        · rw [hbe] at HC hbl hblt
          have hbk : b < k := hblt b (by simp)
          obtain ⟨y, hy⟩ : ∃ y, l[b]? = some y := ⟨_, List.getElem?_eq_getElem (by omega)⟩
          have hwy := hw y (List.mem_of_getElem? hy)
          have hd : (x.1 == 2) = true := by simp [hst]
          have hd2 : (x.1 != 2) = false := by simp [hst]
          have HE := Lib.hid (bests_more (p := p) (blocks := blocks) (now := now) HX.out hy hst hbe)
          have hown := HC.out.own
          obtain ⟨gb, c1, cur, rfl, -, -, -, -⟩ := own_block hown (by simp)
          have hCB : CB w W g h l (.slice (some ⟨h1, 0, none⟩) l.length ca) (.slice (some ⟨gb, 0, none⟩) (b :: bs).length c1) (b :: bs) wr.heap.size x := ⟨HC.out, HBW.out⟩
          obtain ⟨q0, q1, q2, q3⟩ := hCB.cells
          have hCBd := hCB.later (Below.refl W.heap.size W).drew
          have g0 : (0 : Int) < ((b :: bs).length : Int) := by rw [List.length_cons]; omega
          have g1 : (((b :: bs).length : Int) == 0) = false := by rw [List.length_cons]; simp; omega
          have HY := Lib.hid hy
          have HCB := Lib.hid hCB
          have hlen : (b :: bs).length ≤ k := hbl
          generalize hL : (b :: bs).length = L at *
          have HL := Lib.hid hL
          have g2 : 0 < L := by omega
          clear hst hbe hown hblt hbl hy hw hL hCB
          rcases hbt : better p x y blocks now with _ | _
          · have hB1 := fun W => better_any p x y blocks now W hwx hwy kn kn2
            rw [hbt] at HE hB1
            clear hbt
            go_wp2
            rw [← HW.out]
            go_region_held3 (fun w' => w'.cell? ⟨wr.heap.size, 0, none⟩ = some (.int .i64 x.1) ∧ w'.cell? ⟨wr.heap.size, 1, none⟩ = some (.int .i64 x.2.1) ∧ w'.cell? ⟨wr.heap.size, 2, none⟩ = some (.int .u64 x.2.2) ∧ w'.cell? ⟨gb, 0, none⟩ = some (.int .i64 b))
              (first | exact ⟨by assumption, by assumption, by assumption, by assumption⟩ | go_keep)
              (first
                | (go_at_call 14; refine (at_yes g h b l y _ (CS.tab (CB.cs (by assumption))) HY.out).mono ?_; rintro e w3 ⟨rfl, hb3⟩; have hcb3 := CB.later (by assumption) hb3; obtain ⟨t0, t1, t2, t3⟩ := hcb3.cells; clear hb3)
                | (go_at_call 10; refine (hB1 _).mono ?_; rintro e w4 ⟨rfl, hb4⟩; have hcb4 := CB.later (by assumption) hb4; obtain ⟨t4, t5, t6, t7⟩ := hcb4.cells; clear hb4))
            rcases hbt2 : better p y x blocks now with _ | _
            · have hB2 := fun W => better_any p y x blocks now W hwy hwx kn kn2
              have HE2 := HE.out
              rw [hbt2] at HE2 hB2
              rw [if_neg (by decide), if_neg (by decide)] at HE2
              have HE3 := Lib.hid HE2
              have hcbd := hcb4.later (Below.refl w4.heap.size w4).drew
              clear hbt2 HE2
              go_wp2
              go_region_held3 (fun w' => w'.cell? ⟨wr.heap.size, 0, none⟩ = some (.int .i64 x.1) ∧ w'.cell? ⟨wr.heap.size, 1, none⟩ = some (.int .i64 x.2.1) ∧ w'.cell? ⟨wr.heap.size, 2, none⟩ = some (.int .u64 x.2.2) ∧ w'.cell? ⟨gb, 0, none⟩ = some (.int .i64 b))
                (first | exact ⟨by assumption, by assumption, by assumption, by assumption⟩ | go_keep)
                (first
                  | (go_at_call 14; refine (at_yes g h b l y _ (CS.tab (CB.cs (by assumption))) HY.out).mono ?_; rintro e w5 ⟨rfl, hb5⟩; have hcb5 := CB.later (by assumption) hb5; obtain ⟨v0, v1, v2, v3⟩ := hcb5.cells; clear hb5)
                  | (go_at_call 10; refine (hB2 _).mono ?_; rintro e w6 ⟨rfl, hb6⟩; have hcb6 := CB.later (by assumption) hb6; obtain ⟨v4, v5, v6, v7⟩ := hcb6.cells; clear hb6))
              have HA := Lib.hid (hcb6.cs.later ((Below.refl w6.heap.size w6).alloc (Nat.le_refl _) (.cells #[.int .i64 (k : Int)] 3)))
              have HBX := Lib.hid (hcb6.box)
              go_wp2_with (at_builtin; refine wpList_append_any _ rfl _ _ 43 rfl w.heap.size 3 i0 (.int .i64 0) 1 8 Try.underlying43 hi0 hz0 hz1 hz2 rfl (by decide) (.slice (some ⟨gb, 0, none⟩) L c1) (b :: bs).length (intsOf (b :: bs)) rfl HA.out.own (some ⟨w6.heap.size, 0, none⟩) 1 1 [.int .i64 (k : Int)] rfl rfl (Rd.one _ _ _ rfl) (by intro u hu; simp at hu; subst hu; rfl) (by unfold maxLen; rw [HL.out]; omega) (by rw [HL.out]; omega) HA.out.below.size ?_; intro v1 w7 hown1 hg1 hat1)
              go_roundw
              case rel => exact ⟨k + 1, by omega, by go_num, by rw [HE3.out]; exact HA.out.app hg1 (by simpa using hown1)⟩
              case measure => simp [intOf]; omega
            · have hB2 := fun W => better_any p y x blocks now W hwy hwx kn kn2
              have HE2 := HE.out
              rw [hbt2] at HE2 hB2
              rw [if_neg (by decide), if_pos rfl] at HE2
              have HE3 := Lib.hid HE2
              have hcbd := hcb4.later (Below.refl w4.heap.size w4).drew
              clear hbt2 HE2
              go_wp2
              go_region_held3 (fun w' => w'.cell? ⟨wr.heap.size, 0, none⟩ = some (.int .i64 x.1) ∧ w'.cell? ⟨wr.heap.size, 1, none⟩ = some (.int .i64 x.2.1) ∧ w'.cell? ⟨wr.heap.size, 2, none⟩ = some (.int .u64 x.2.2) ∧ w'.cell? ⟨gb, 0, none⟩ = some (.int .i64 b))
                (first | exact ⟨by assumption, by assumption, by assumption, by assumption⟩ | go_keep)
                (first
                  | (go_at_call 14; refine (at_yes g h b l y _ (CS.tab (CB.cs (by assumption))) HY.out).mono ?_; rintro e w5 ⟨rfl, hb5⟩; have hcb5 := CB.later (by assumption) hb5; obtain ⟨v0, v1, v2, v3⟩ := hcb5.cells; clear hb5)
                  | (go_at_call 10; refine (hB2 _).mono ?_; rintro e w6 ⟨rfl, hb6⟩; have hcb6 := CB.later (by assumption) hb6; obtain ⟨v4, v5, v6, v7⟩ := hcb6.cells; clear hb6))
              go_wp2
              go_roundw
              case rel => exact ⟨k + 1, by omega, by go_num, by rw [HE3.out]; exact hcb6.cs⟩
              case measure => simp [intOf]; omega
          · have hB1 := fun W => better_any p x y blocks now W hwx hwy kn kn2
            rw [hbt] at HE hB1
            clear hbt
            go_wp2
            rw [← HW.out]
            go_region_held3 (fun w' => w'.cell? ⟨wr.heap.size, 0, none⟩ = some (.int .i64 x.1) ∧ w'.cell? ⟨wr.heap.size, 1, none⟩ = some (.int .i64 x.2.1) ∧ w'.cell? ⟨wr.heap.size, 2, none⟩ = some (.int .u64 x.2.2) ∧ w'.cell? ⟨gb, 0, none⟩ = some (.int .i64 b))
              (first | exact ⟨by assumption, by assumption, by assumption, by assumption⟩ | go_keep)
              (first
                | (go_at_call 14; refine (at_yes g h b l y _ (CS.tab (CB.cs (by assumption))) HY.out).mono ?_; rintro e w3 ⟨rfl, hb3⟩; have hcb3 := CB.later (by assumption) hb3; obtain ⟨t0, t1, t2, t3⟩ := hcb3.cells; clear hb3)
                | (go_at_call 10; refine (hB1 _).mono ?_; rintro e w4 ⟨rfl, hb4⟩; have hcb4 := CB.later (by assumption) hb4; obtain ⟨t4, t5, t6, t7⟩ := hcb4.cells; clear hb4))
            go_wp2
            go_roundw
            case rel => exact ⟨k + 1, by omega, by go_num, by rw [HE.out]; exact hcb4.cs.fresh k⟩
            case measure => simp [intOf]; omega
      · have hd : (x.1 == 2) = false := by simp [hst]
        have hd2 : (x.1 != 2) = true := by simp [hst]
        have HE := Lib.hid (bests_skip (p := p) (blocks := blocks) (now := now) HX.out hst)
        clear hst
        go_wp2
        go_roundw
        case rel => exact ⟨k + 1, by omega, by go_num, by rw [HE.out, ← HW.out]; exact HC.out⟩
        case measure => simp [intOf]; omega
    · obtain rfl : k = l.length := by omega
      have hBl := hC.below
      have HR2 := HR.out
      unfold chosen at HR2
      rcases hbe : bests p blocks now l l.length with _ | ⟨b, bs⟩
      · rw [hbe] at hC HR2
        obtain rfl : r = -1 := HR2
        obtain ⟨A1, c1, rfl, -, -⟩ := own_form hC.own
        have hz : ([] : List Nat).length = 0 := rfl
        clear hC
        go_wp2
        go_ret
        exact ⟨rfl, hBl⟩
      · rw [hbe] at hC HR2 hbl
        rw [if_neg (by simp)] at HR2
        obtain ⟨gb, c1, cur, rfl, -, -, -, -⟩ := own_block hC.own (by simp)
        obtain ⟨L, hL⟩ : ∃ L, L = (b :: bs).length := ⟨_, rfl⟩
        have hL0 : 0 < L := by rw [hL]; simp
        have m0 : 0 ≤ tie % 18446744073709551616 % (L : Int) := Int.emod_nonneg _ (by omega)
        have m1 : tie % 18446744073709551616 % (L : Int) < L := Int.emod_lt_of_pos _ (by omega)
        obtain ⟨_, e1, c0⟩ := Rd.of_own hC.own (tie % 18446744073709551616 % (L : Int)).toNat (.int .i64 r) (by
          have hj : (tie % 18446744073709551616 % (L : Int)).toNat < (b :: bs).length := by rw [← hL]; omega
          unfold intsOf
          rw [List.getElem?_map, List.getElem?_eq_getElem hj, HR2, ← hL, List.getD_eq_getElem?_getD, List.getElem?_eq_getElem hj]
          rfl)
        cases e1
        simp only [add_zero_addr, Nat.zero_add] at c0
        have hw1 : wrap64 ((IntKind.u64.wrap tie).tmod (L : Int)) = tie % 18446744073709551616 % (L : Int) := by
          have e1 : IntKind.u64.wrap tie = tie % 18446744073709551616 := by simp [IntKind.wrap, IntKind.bits, IntKind.signed]
          have e2 : 0 ≤ tie % 18446744073709551616 := by omega
          rw [e1, Int.tmod_eq_emod_of_nonneg e2]
          unfold wrap64
          omega
        rw [← hw1] at c0 m0 m1
        rw [← hL] at hbl ⊢
        clear hw1
        have HL := Lib.hid hL
        have hLl : (L : Int) ≤ l.length := by omega
        have hL1 : ((L : Int) == 0) = false := by simp; omega
        clear hC HR2 hL hbe
        go_wp2
        go_ret
        exact ⟨rfl, hBl⟩
end Go.Proofs.Ytlkfinkgekkcfaa
