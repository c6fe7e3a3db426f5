/- The walk of TablePlays. No further condition. -/
import Derived.Test.YtcnjpheeebjjbaaTb5
import Derived.Test.YtcnjpheeebjjbaaTb7
import Derived.Deep.CutBlock
namespace Go.Proofs.Ytcnjpheeebjjbaa
open Go.RowKit

/-- What holds between two acts: the table and the law's own list hold the same. -/
structure PS (w0 W : World) (g h h2 : Nat) (l : List Sg) : Prop where
  below : Below w0.heap.size w0 W
  tab : Tab W g h l
  row : Blk W h2 30 (sgs l).toArray
  ne : h2 ≠ h
  lo : w0.heap.size ≤ h
  lo2 : w0.heap.size ≤ h2
section
variable {w0 W W' : World} {g h h2 : Nat} {l l' : List Sg}
theorem PS.later (k : PS w0 W g h h2 l) (hb : Below W.heap.size W W') : PS w0 W' g h h2 l :=
  ⟨k.below.trans (hb.mono k.below.size), k.tab.later hb, k.row.below hb k.row.lt, k.ne, k.lo, k.lo2⟩
/-- Behind a change of the table alone. -/
structure Half (w0 W : World) (g h h2 : Nat) (l l' : List Sg) : Prop where
  below : Below w0.heap.size w0 W
  tab : Tab W g h l'
  row : Blk W h2 30 (sgs l).toArray
  ne : h2 ≠ h
  lo : w0.heap.size ≤ h
  lo2 : w0.heap.size ≤ h2
theorem PS.half (k : PS w0 W g h h2 l) (t : TabTo W W' g h l') : Half w0 W' g h h2 l l' :=
  ⟨below_tabTo k.below t k.lo (Nat.le_refl _), t.tab, k.row.fr t.fr k.ne, k.ne, k.lo, k.lo2⟩
theorem PS.idle (k : PS w0 W g h h2 l) : Half w0 W g h h2 l l := ⟨k.below, k.tab, k.row, k.ne, k.lo, k.lo2⟩
theorem Half.same (k : Half w0 W g h h2 l l) : PS w0 W g h h2 l := ⟨k.below, k.tab, k.row, k.ne, k.lo, k.lo2⟩
/-- The law's own list is turned likewise. -/
theorem Half.full {i : Nat} {s s' : Sg} (k : Half w0 W g h h2 l (l.set i s')) (hi : l[i]? = some s) :
    PS w0 (((W.setCell ⟨h2, i * 3, none⟩ (.int .i64 s'.1)).setCell ⟨h2, i * 3 + 1, none⟩ (.int .i64 s'.2.1)).setCell ⟨h2, i * 3 + 2, none⟩ (.int .u64 s'.2.2)) g h h2 (l.set i s') := by
  have hlt : i < l.length := (List.getElem?_eq_some_iff.1 hi).1
  have n1 : g ≠ h2 := k.tab.own.ne_ k.row (by decide)
  refine ⟨((k.below.setCell (p := ⟨h2, i * 3, none⟩) k.lo2 _).setCell (p := ⟨h2, i * 3 + 1, none⟩) k.lo2 _).setCell (p := ⟨h2, i * 3 + 2, none⟩) k.lo2 _, ?_, ?_, k.ne, k.lo, k.lo2⟩
  · have f : Fr (· = h2) W (((W.setCell ⟨h2, i * 3, none⟩ (.int .i64 s'.1)).setCell ⟨h2, i * 3 + 1, none⟩ (.int .i64 s'.2.1)).setCell ⟨h2, i * 3 + 2, none⟩ (.int .u64 s'.2.2)) :=
      (((Fr.refl (· = h2) W).setCell (p := ⟨h2, i * 3, none⟩) (.inl rfl) _).setCell (p := ⟨h2, i * 3 + 1, none⟩) (.inl rfl) _).setCell (p := ⟨h2, i * 3 + 2, none⟩) (.inl rfl) _
    exact k.tab.fr f n1 (Ne.symm k.ne)
  · have r0 := k.row.set_ (i * 3 + 0) (.int .i64 s'.1)
    rw [List.setIfInBounds_toArray, sgs_set l i 0 s _ (s'.1, s.2.1, s.2.2) (by decide) hi rfl] at r0
    have r1 := r0.set_ (i * 3 + 1) (.int .i64 s'.2.1)
    rw [List.setIfInBounds_toArray, sgs_set _ i 1 (s'.1, s.2.1, s.2.2) _ (s'.1, s'.2.1, s.2.2) (by decide) (by rw [List.getElem?_set_self hlt]) rfl, List.set_set] at r1
    have r2 := r1.set_ (i * 3 + 2) (.int .u64 s'.2.2)
    rw [List.setIfInBounds_toArray, sgs_set _ i 2 (s'.1, s'.2.1, s.2.2) _ s' (by decide) (by rw [List.getElem?_set_self hlt]) rfl, List.set_set] at r2
    exact r2
end
theorem set_same {l : List Sg} {i : Nat} {s : Sg} (h : l[i]? = some s) : l.set i s = l := by
  obtain ⟨hi, rfl⟩ := List.getElem?_eq_some_iff.1 h
  exact List.set_getElem_self hi
theorem okst_set {l : List Sg} {i : Nat} {s' : Sg} (h : Okst l) (hs : s'.1 = 0 ∨ s'.1 = 1 ∨ s'.1 = 2) : Okst (l.set i s') := by
  intro x hx
  rcases List.mem_or_eq_of_mem_set hx with h1 | h1
  · exact h x h1
  · rw [h1]; exact hs

theorem right_ok' (g h h2 c m : Nat) (l : List Sg) (w : World) (ht : Tab w g h l) (hv : Blk w h2 30 (sgs l).toArray) (hs : Okst l) (hm : l.length = m) :
    Calls Try.prog 19 #[.pointer (some ⟨g, 0, none⟩), .slice (some ⟨h2, 0, none⟩) m c] w fun e w' => e = .returned (.bool true) ∧ Below w.heap.size w w' := by
  subst hm
  exact right_ok g h h2 c l w ht hv hs
theorem zeros_sgs (n : Nat) : (List.replicate n [Value.int .i64 0, Value.int .i64 0, Value.int .u64 0]).flatten = sgs (List.replicate n (0, 0, 0)) := by
  unfold sgs
  rw [List.flatMap_def, List.map_replicate]
  rfl
theorem len_rep (n : Nat) : (List.replicate n ((0, 0, 0) : Sg)).length = n := List.length_replicate
/-- The act's block and the segment's, behind the round's head. -/
theorem PS.two {w0 W : World} {g h h2 : Nat} {l : List Sg} (k : PS w0 W g h h2 l) (o1 o2 : Obj) : PS w0 ((W.alloc o1).alloc o2) g h h2 l := (k.later ((Below.refl _ _).alloc (Nat.le_refl _) o1)).later ((Below.refl _ _).alloc (Nat.le_refl _) o2)
set_option maxRecDepth 100000 in
set_option maxHeartbeats 6400000 in
theorem tablePlays_walk (n : Nat) (A : Option Addr) (len c : Nat) (w : World) (hn : n ≤ 255)
    (ra : ∀ i, i < len → ∃ x d a s v b, A = some x ∧ ActAt w x i d a s v b ∧ (-128 ≤ d ∧ d ≤ 127) ∧ (-128 ≤ a ∧ a ≤ 127) ∧ (0 ≤ s ∧ s ≤ 255) ∧ (-128 ≤ v ∧ v ≤ 127)) (hm : len ≤ 9223372036854775807) :
    Calls Try.prog 5 #[.int .u8 n, .slice A len c] w fun e w' => e = .returned (.bool true) ∧ Below w.heap.size w w' := by
  have ha := awake_ok w
  by_cases hlong : 80 < len
  · go_enter Try.func5, Try.ntmps5
    go_wp2_with (go_at_call 6; refine ha.mono ?_; rintro e w1 ⟨rfl, hb1⟩)
    go_ret
    exact ⟨rfl, hb1⟩
  have hnew := fun W => new_ok (n % 9) W (by omega)
  rw [show ((n % 9 : Nat) : Int) = (n : Int) % 9 by omega] at hnew
  obtain ⟨i0, hi, hz0, hz1, hz2⟩ := info_parts (show (Try.prog.info? 30).map (fun i => (i.zero, i.size, i.bytes)) = some (some (.agg #[.int .i64 0, .int .i64 0, .int .u64 0]), 3, 24) by kernel_rfl)
  have hmk := fun W => run_make_zeros (P := Try.prog) 25 30 i0 _ 3 24 Try.underlying25 hi hz0 hz1 hz2 rfl .i64 .i64 (n % 9) (by omega) (by omega) W
  rw [show ((n % 9 : Nat) : Int) = (n : Int) % 9 by omega] at hmk
  go_enter Try.func5, Try.ntmps5
  go_upto_region 6 with (go_at_call 6; refine ha.mono ?_; rintro e w1 ⟨rfl, hb1⟩)
  go_cut [6, 7] (fun t v wx => ∃ g h h2 : Nat, t = .pointer (some ⟨g, 0, none⟩) ∧ v = .slice (some ⟨h2, 0, none⟩) (n % 9) (n % 9) ∧ PS w wx g h h2 (List.replicate (n % 9) (0, 0, 0)))
  case first =>
    go_region_with (go_at_call 7; refine (hnew _).mono ?_; rintro e w2 ⟨rfl, ht2, hb2, hz2⟩)
    · go_wp2_with fail
      go_meet
      have hh := hb1.size
      have hs2 := hb2.size
      simp at hs2
      refine ⟨_, _, _, rfl, rfl, ?_, ht2.later ((Below.refl _ _).alloc (Nat.le_refl _) _), by rw [← zeros_sgs]; exact Blk.new_ _ _ _ hz2, ?_, ?_, ?_⟩
      · exact ((hb1.drew.trans (hb2.mono (by simpa using hb1.size))).alloc (by simp at hz2; omega) _)
      · simp
      · simpa using hb1.size
      · omega
    · go_wp2_with fail
      go_meet
      have hh := hb1.size
      have ht3 : Tab w2 (w1.heap.size + 1 + 1) (w1.heap.size + 1) (List.replicate (n % 9) (0, 0, 0)) := by simpa using ht2
      have hk3 : Blk (w1.alloc (.cells (List.replicate (n % 9) [Value.int .i64 0, Value.int .i64 0, Value.int .u64 0]).flatten.toArray 30)).drew w1.heap.size 30 (List.replicate (n % 9) [Value.int .i64 0, Value.int .i64 0, Value.int .u64 0]).flatten.toArray := (Blk.new w1 30 _).drew
      refine ⟨_, _, _, rfl, rfl, ?_, ht3, by rw [← zeros_sgs]; exact hk3.later hb2, ?_, ?_, ?_⟩
      · exact ((hb1.alloc hb1.size _).drew).trans (hb2.mono (by simp; omega))
      · omega
      · omega
      · exact hb1.size
  case rest =>
    obtain ⟨g, h, h2, rfl, rfl, hP⟩ := hcut
    have hok0 : Okst (List.replicate (n % 9) (0, 0, 0)) := fun x hx => by rw [List.eq_of_mem_replicate hx]; exact .inl rfl
    clear hnew hmk ha
    go_wp2
    go_loopw [27] (fun i wr => ∃ (k : Nat) (l : List Sg), k ≤ len ∧ i = .int .i64 k ∧ PS w wr g h h2 l ∧ Okst l ∧ l.length = n % 9) (fun i _ => len - (intOf i).toNat)
    case atStart => exact ⟨0, _, by omega, rfl, hP, hok0, len_rep _⟩
    case round =>
      clear hP hok0
      obtain ⟨k, l, hk, rfl, hP, hok, hl⟩ := hrel
      by_cases hlt : k < len
      · obtain ⟨x, d, a, s, v, b, rfl, hact, hd, ha1, hs1, hv1⟩ := ra k hlt
        obtain ⟨c0, c1, c2, c3, c4⟩ := (⟨(hP.below.cell (World.block_lt_of_cell? w _ hact.1)).trans hact.1, (hP.below.cell (World.block_lt_of_cell? w _ hact.2.1)).trans hact.2.1, (hP.below.cell (World.block_lt_of_cell? w _ hact.2.2.1)).trans hact.2.2.1,
          (hP.below.cell (World.block_lt_of_cell? w _ hact.2.2.2.1)).trans hact.2.2.2.1, (hP.below.cell (World.block_lt_of_cell? w _ hact.2.2.2.2)).trans hact.2.2.2.2⟩ : ActAt wr x k d a s v b)
        clear hact ra
        -- THE ROUND
        have hq : ∀ W : World, (binOp .neq 30 (.agg #[.int .i64 0, .int .i64 0, .int .u64 0]) (.agg #[.int .i64 0, .int .i64 0, .int .u64 0])).run Try.prog W = .ok (.bool false) W := fun W => by have := sg_neq (0, 0, 0) (0, 0, 0) W; rw [decide_eq_true rfl] at this; exact this
        have hhl := hP.tab.row.lt
        have hh2l := hP.row.lt
        have hwl := hP.below.size
        rcases at_or l a with hout | ⟨j, y, rfl, hy⟩
        · have hout2 : a < 0 ∨ (0 ≤ a ∧ ((n : Int) % 9) ≤ a) := by omega
          rcases hout2 with hx1 | ⟨hx1, hx2⟩
          all_goals
            go_upto_block 2 with fail
            go_cut [] (fun wx => PS w wx g h h2 l)
            case first =>
              go_wp2_with (first
                | (go_at_call 18; refine (set_no g h a l (s % 3, v, b) _ (PS.tab (by first | assumption | exact hP.later (by (repeat' (first | (with_reducible exact Below.refl _ _) | (with_reducible exact Nat.le_refl _) | (with_reducible refine Below.drew ?_) | (with_reducible refine Below.setCell ?_ ?_ _) | (with_reducible refine Below.alloc ?_ ?_ _) | (simp; done) | (simp; omega)))))) hout).mono ?_; rintro e w3 ⟨rfl, hb3⟩; have hP3 : PS w w3 g h h2 l := PS.later (by first | assumption | exact hP.later (by (repeat' (first | (with_reducible exact Below.refl _ _) | (with_reducible exact Nat.le_refl _) | (with_reducible refine Below.drew ?_) | (with_reducible refine Below.setCell ?_ ?_ _) | (with_reducible refine Below.alloc ?_ ?_ _) | (simp; done) | (simp; omega))))) hb3; clear hb3)
                | (go_at_call 13; refine (live_no g h a v l _ (PS.tab (by first | assumption | exact hP.later (by (repeat' (first | (with_reducible exact Below.refl _ _) | (with_reducible exact Nat.le_refl _) | (with_reducible refine Below.drew ?_) | (with_reducible refine Below.setCell ?_ ?_ _) | (with_reducible refine Below.alloc ?_ ?_ _) | (simp; done) | (simp; omega)))))) hout).mono ?_; rintro e w3 ⟨rfl, rfl⟩)
                | (go_at_call 10; refine (open_no g h a l _ (PS.tab (by first | assumption | exact hP.later (by (repeat' (first | (with_reducible exact Below.refl _ _) | (with_reducible exact Nat.le_refl _) | (with_reducible refine Below.drew ?_) | (with_reducible refine Below.setCell ?_ ?_ _) | (with_reducible refine Below.alloc ?_ ?_ _) | (simp; done) | (simp; omega)))))) hout).mono ?_; rintro e w3 ⟨rfl, rfl⟩)
                | (go_at_call_of 12 (Value.slice none 0 0); refine (clear_none g _).mono ?_; rintro e w3 ⟨rfl, rfl⟩)
                | (go_at_call 12; refine (clear_one g h (wr.heap.size + 1 + 1) a l _ (PS.tab (by first | assumption | exact hP.later (by (repeat' (first | (with_reducible exact Below.refl _ _) | (with_reducible exact Nat.le_refl _) | (with_reducible refine Below.drew ?_) | (with_reducible refine Below.setCell ?_ ?_ _) | (with_reducible refine Below.alloc ?_ ?_ _) | (simp; done) | (simp; omega)))))) (Blk.new_ _ _ _ (by simp))).mono ?_; rintro e w3 ⟨rfl, hT3⟩; have hP3 : PS w w3 g h h2 l := (by have hh3 := PS.half (by first | assumption | exact hP.later (by (repeat' (first | (with_reducible exact Below.refl _ _) | (with_reducible exact Nat.le_refl _) | (with_reducible refine Below.drew ?_) | (with_reducible refine Below.setCell ?_ ?_ _) | (with_reducible refine Below.alloc ?_ ?_ _) | (simp; done) | (simp; omega))))) hT3; rw [upd_no _ hout] at hh3; exact hh3.same); clear hT3)
                | fail)
              all_goals (try (go_region; go_wp2_with (go_at_call 11; refine (seal_no g h a b l _ (PS.tab (by first | assumption | exact hP.later (by (repeat' (first | (with_reducible exact Below.refl _ _) | (with_reducible exact Nat.le_refl _) | (with_reducible refine Below.drew ?_) | (with_reducible refine Below.setCell ?_ ?_ _) | (with_reducible refine Below.alloc ?_ ?_ _) | (simp; done) | (simp; omega)))))) hout).mono ?_; rintro e w3 ⟨rfl, rfl⟩)))
              all_goals (go_meet; exact (by first | assumption | exact hP.later (by (repeat' (first | (with_reducible exact Below.refl _ _) | (with_reducible exact Nat.le_refl _) | (with_reducible refine Below.drew ?_) | (with_reducible refine Below.setCell ?_ ?_ _) | (with_reducible refine Below.alloc ?_ ?_ _) | (simp; done) | (simp; omega))))))
            case rest =>
              have hP2 : PS w wc g h h2 l := hcut
              obtain ⟨l2, hl2e⟩ : ∃ l2, l2 = l := ⟨_, rfl⟩
              rw [← hl2e] at hP2 hok hl
              have hok2 := hok
              have hl2 := hl
              go_wp2_with
                (first
                  | (go_at_call 19; refine (right_ok' g h h2 (n % 9) (n % 9) l2 _ hP2.tab hP2.row hok2 hl2).mono ?_; rintro e w5 ⟨rfl, hb5⟩; have hP5 := hP2.later hb5; clear hb5)
                  | (go_at_call 9; refine (at_no g h _ l2 _ (PS.tab (by assumption)) (by omega)).mono ?_; rintro e w6 ⟨rfl, hb6⟩; have hP6 : PS w w6 g h h2 l2 := PS.later (by assumption) hb6; clear hb6))
              go_roundw
              case rel => exact ⟨k + 1, l2, by omega, by go_num, hP6, hok2, hl2⟩
              case measure => simp [intOf]; omega
        · have hjl : j < l.length := (List.getElem?_eq_some_iff.1 hy).1
          have hsbh : ¬ wr.heap.size + 1 = h := by omega
          have HR0 := Lib.hid (show (sgs l).toArray[j * 3]? = some (.int .i64 y.1) by simpa [sgv] using sgs_get l j 0 y (by decide) hy)
          have HR1 := Lib.hid (show (sgs l).toArray[j * 3 + 1]? = some (.int .i64 y.2.1) by simpa [sgv] using sgs_get l j 1 y (by decide) hy)
          have HR2 := Lib.hid (show (sgs l).toArray[j * 3 + 2]? = some (.int .u64 y.2.2) by simpa [sgv] using sgs_get l j 2 y (by decide) hy)
          have p0 : ∀ o1 o2, ((wr.alloc o1).alloc o2).cell? ⟨h2, j * 3, none⟩ = some (.int .i64 y.1) := fun o1 o2 => ((hP.two o1 o2).row.cell (j * 3)).trans HR0.out
          have p1 : ∀ o1 o2, ((wr.alloc o1).alloc o2).cell? ⟨h2, j * 3 + 1, none⟩ = some (.int .i64 y.2.1) := fun o1 o2 => ((hP.two o1 o2).row.cell (j * 3 + 1)).trans HR1.out
          have p2 : ∀ o1 o2, ((wr.alloc o1).alloc o2).cell? ⟨h2, j * 3 + 2, none⟩ = some (.int .u64 y.2.2) := fun o1 o2 => ((hP.two o1 o2).row.cell (j * 3 + 2)).trans HR2.out
          have g1 : (j : Int) < (n : Int) % 9 := by omega
          have g2 : j < n % 9 := by omega
          go_upto_block 2 with fail
          go_cut [] (fun wx => ∃ s' : Sg, Half w wx g h h2 l (l.set j s') ∧ Blk wx (wr.heap.size + 1) 30 #[.int .i64 s'.1, .int .i64 s'.2.1, .int .u64 s'.2.2] ∧ (s'.1 = 0 ∨ s'.1 = 1 ∨ s'.1 = 2))
          case first =>
            go_wp2_with (first
              | (go_at_call 18; refine (set_any g h j l (s % 3, v, b) _ (PS.tab (by first | assumption | exact hP.later (by (repeat' (first | (with_reducible exact Below.refl _ _) | (with_reducible exact Nat.le_refl _) | (with_reducible refine Below.drew ?_) | (with_reducible refine Below.setCell ?_ ?_ _) | (with_reducible refine Below.alloc ?_ ?_ _) | (simp; done) | (simp; omega))))))).mono ?_; rintro e w3 ⟨rfl, hT3⟩; have hh3 := PS.half (by first | assumption | exact hP.later (by (repeat' (first | (with_reducible exact Below.refl _ _) | (with_reducible exact Nat.le_refl _) | (with_reducible refine Below.drew ?_) | (with_reducible refine Below.setCell ?_ ?_ _) | (with_reducible refine Below.alloc ?_ ?_ _) | (simp; done) | (simp; omega))))) hT3; rw [upd_yes _ hy] at hh3; have hsb3 : Blk w3 (wr.heap.size + 1) 30 #[.int .i64 ((s % 3, v, b) : Sg).1, .int .i64 ((s % 3, v, b) : Sg).2.1, .int .u64 ((s % 3, v, b) : Sg).2.2] := (Blk.new_ _ _ _ (by simp)).fr hT3.fr hsbh; have hR3 : ∃ s' : Sg, Half w w3 g h h2 l (l.set j s') ∧ Blk w3 (wr.heap.size + 1) 30 #[.int .i64 s'.1, .int .i64 s'.2.1, .int .u64 s'.2.2] ∧ (s'.1 = 0 ∨ s'.1 = 1 ∨ s'.1 = 2) := ⟨((s % 3, v, b) : Sg), hh3, hsb3, (show s % 3 = 0 ∨ s % 3 = 1 ∨ s % 3 = 2 by omega)⟩; clear hT3 hh3 hsb3)
              | (go_at_call 13; refine (live_any g h j v l _ (PS.tab (by first | assumption | exact hP.later (by (repeat' (first | (with_reducible exact Below.refl _ _) | (with_reducible exact Nat.le_refl _) | (with_reducible refine Below.drew ?_) | (with_reducible refine Below.setCell ?_ ?_ _) | (with_reducible refine Below.alloc ?_ ?_ _) | (simp; done) | (simp; omega))))))).mono ?_; rintro e w3 ⟨rfl, hT3⟩; have hh3 := PS.half (by first | assumption | exact hP.later (by (repeat' (first | (with_reducible exact Below.refl _ _) | (with_reducible exact Nat.le_refl _) | (with_reducible refine Below.drew ?_) | (with_reducible refine Below.setCell ?_ ?_ _) | (with_reducible refine Below.alloc ?_ ?_ _) | (simp; done) | (simp; omega))))) hT3; rw [upd_yes _ hy] at hh3; have hsb3 : Blk w3 (wr.heap.size + 1) 30 #[.int .i64 ((y.1, wrap64 (y.2.1 + v), y.2.2) : Sg).1, .int .i64 ((y.1, wrap64 (y.2.1 + v), y.2.2) : Sg).2.1, .int .u64 ((y.1, wrap64 (y.2.1 + v), y.2.2) : Sg).2.2] := (Blk.new_ _ _ _ (by simp)).fr hT3.fr hsbh; have hR3 : ∃ s' : Sg, Half w w3 g h h2 l (l.set j s') ∧ Blk w3 (wr.heap.size + 1) 30 #[.int .i64 s'.1, .int .i64 s'.2.1, .int .u64 s'.2.2] ∧ (s'.1 = 0 ∨ s'.1 = 1 ∨ s'.1 = 2) := ⟨((y.1, wrap64 (y.2.1 + v), y.2.2) : Sg), hh3, hsb3, hok y (List.mem_of_getElem? hy)⟩; clear hT3 hh3 hsb3)
              | (go_at_call 10; refine (open_any g h j l _ (PS.tab (by first | assumption | exact hP.later (by (repeat' (first | (with_reducible exact Below.refl _ _) | (with_reducible exact Nat.le_refl _) | (with_reducible refine Below.drew ?_) | (with_reducible refine Below.setCell ?_ ?_ _) | (with_reducible refine Below.alloc ?_ ?_ _) | (simp; done) | (simp; omega))))))).mono ?_; rintro e w3 ⟨rfl, hT3⟩; have hh3 := PS.half (by first | assumption | exact hP.later (by (repeat' (first | (with_reducible exact Below.refl _ _) | (with_reducible exact Nat.le_refl _) | (with_reducible refine Below.drew ?_) | (with_reducible refine Below.setCell ?_ ?_ _) | (with_reducible refine Below.alloc ?_ ?_ _) | (simp; done) | (simp; omega))))) hT3; rw [upd_yes _ hy] at hh3; have hsb3 : Blk w3 (wr.heap.size + 1) 30 #[.int .i64 ((1, y.2.1, y.2.2) : Sg).1, .int .i64 ((1, y.2.1, y.2.2) : Sg).2.1, .int .u64 ((1, y.2.1, y.2.2) : Sg).2.2] := (Blk.new_ _ _ _ (by simp)).fr hT3.fr hsbh; have hR3 : ∃ s' : Sg, Half w w3 g h h2 l (l.set j s') ∧ Blk w3 (wr.heap.size + 1) 30 #[.int .i64 s'.1, .int .i64 s'.2.1, .int .u64 s'.2.2] ∧ (s'.1 = 0 ∨ s'.1 = 1 ∨ s'.1 = 2) := ⟨((1, y.2.1, y.2.2) : Sg), hh3, hsb3, (.inr (.inl rfl))⟩; clear hT3 hh3 hsb3)
              | (go_at_call_of 12 (Value.slice none 0 0); refine (clear_none g _).mono ?_; rintro e w3 ⟨rfl, rfl⟩)
              | (go_at_call 12; refine (clear_one g h (wr.heap.size + 1 + 1) j l _ (PS.tab (by first | assumption | exact hP.later (by (repeat' (first | (with_reducible exact Below.refl _ _) | (with_reducible exact Nat.le_refl _) | (with_reducible refine Below.drew ?_) | (with_reducible refine Below.setCell ?_ ?_ _) | (with_reducible refine Below.alloc ?_ ?_ _) | (simp; done) | (simp; omega)))))) (Blk.new_ _ _ _ (by simp))).mono ?_; rintro e w3 ⟨rfl, hT3⟩; have hh3 := PS.half (by first | assumption | exact hP.later (by (repeat' (first | (with_reducible exact Below.refl _ _) | (with_reducible exact Nat.le_refl _) | (with_reducible refine Below.drew ?_) | (with_reducible refine Below.setCell ?_ ?_ _) | (with_reducible refine Below.alloc ?_ ?_ _) | (simp; done) | (simp; omega))))) hT3; rw [upd_yes _ hy] at hh3; have hsb3 : Blk w3 (wr.heap.size + 1) 30 #[.int .i64 ((0, 0, 0) : Sg).1, .int .i64 ((0, 0, 0) : Sg).2.1, .int .u64 ((0, 0, 0) : Sg).2.2] := ((Blk.new_ _ _ _ (by simp)).alloc _).fr hT3.fr hsbh; have hR3 : ∃ s' : Sg, Half w w3 g h h2 l (l.set j s') ∧ Blk w3 (wr.heap.size + 1) 30 #[.int .i64 s'.1, .int .i64 s'.2.1, .int .u64 s'.2.2] ∧ (s'.1 = 0 ∨ s'.1 = 1 ∨ s'.1 = 2) := ⟨((0, 0, 0) : Sg), hh3, hsb3, (.inl rfl)⟩; clear hT3 hh3 hsb3)
              | fail)
            all_goals (try (go_region; go_wp2_with (go_at_call 11; refine (seal_any g h j b l _ (PS.tab (by first | assumption | exact hP.later (by (repeat' (first | (with_reducible exact Below.refl _ _) | (with_reducible exact Nat.le_refl _) | (with_reducible refine Below.drew ?_) | (with_reducible refine Below.setCell ?_ ?_ _) | (with_reducible refine Below.alloc ?_ ?_ _) | (simp; done) | (simp; omega))))))).mono ?_; rintro e w3 ⟨rfl, hT3⟩; have hh3 := PS.half (by first | assumption | exact hP.later (by (repeat' (first | (with_reducible exact Below.refl _ _) | (with_reducible exact Nat.le_refl _) | (with_reducible refine Below.drew ?_) | (with_reducible refine Below.setCell ?_ ?_ _) | (with_reducible refine Below.alloc ?_ ?_ _) | (simp; done) | (simp; omega))))) hT3; rw [upd_yes _ hy] at hh3; have hsb3 : Blk w3 (wr.heap.size + 1) 30 #[.int .i64 ((2, y.2.1, b) : Sg).1, .int .i64 ((2, y.2.1, b) : Sg).2.1, .int .u64 ((2, y.2.1, b) : Sg).2.2] := ((Blk.new_ _ _ _ (by simp)).drew).fr hT3.fr hsbh; have hR3 : ∃ s' : Sg, Half w w3 g h h2 l (l.set j s') ∧ Blk w3 (wr.heap.size + 1) 30 #[.int .i64 s'.1, .int .i64 s'.2.1, .int .u64 s'.2.2] ∧ (s'.1 = 0 ∨ s'.1 = 1 ∨ s'.1 = 2) := ⟨((2, y.2.1, b) : Sg), hh3, hsb3, (.inr (.inr rfl))⟩; clear hT3 hh3 hsb3)))
            all_goals (go_meet; first | exact hR3 | exact ⟨y, by rw [set_same hy]; exact (PS.idle (by first | assumption | exact hP.later (by (repeat' (first | (with_reducible exact Below.refl _ _) | (with_reducible exact Nat.le_refl _) | (with_reducible refine Below.drew ?_) | (with_reducible refine Below.setCell ?_ ?_ _) | (with_reducible refine Below.alloc ?_ ?_ _) | (simp; done) | (simp; omega)))))), Blk.new_ _ _ _ (by simp), hok y (List.mem_of_getElem? hy)⟩)
          case rest =>
            obtain ⟨s', hH, hsb, hs'⟩ := hcut
            have hP2 := hH.full hy
            have hok2 := okst_set (i := j) hok hs'
            have hl2 : (l.set j s').length = n % 9 := by rw [List.length_set]; exact hl
            obtain ⟨s0, s1, s2⟩ := hsb.cells3
            have r0 := (hH.row.cell (j * 3)).trans HR0.out
            have r1 := (hH.row.cell (j * 3 + 1)).trans HR1.out
            have r2 := (hH.row.cell (j * 3 + 2)).trans HR2.out
            have f0 := hH.row.frozen (j * 3)
            have f1 := hH.row.frozen (j * 3 + 1)
            have f2 := hH.row.frozen (j * 3 + 2)
            obtain ⟨l2, hl2e⟩ : ∃ l2, l2 = l.set j s' := ⟨_, rfl⟩
            rw [← hl2e] at hP2 hok2 hl2
            clear hl2e hH hsb hP hok hl hy
            go_wp2_with
              (first
                | (go_at_call 19; refine (right_ok' g h h2 (n % 9) (n % 9) l2 _ hP2.tab hP2.row hok2 hl2).mono ?_; rintro e w5 ⟨rfl, hb5⟩; have hP5 := hP2.later hb5; clear hb5)
                | (go_at_call 9; refine (at_no g h _ l2 _ (PS.tab (by assumption)) (by omega)).mono ?_; rintro e w6 ⟨rfl, hb6⟩; have hP6 : PS w w6 g h h2 l2 := PS.later (by assumption) hb6; clear hb6))
            go_roundw
            case rel => exact ⟨k + 1, l2, by omega, by go_num, hP6, hok2, hl2⟩
            case measure => simp [intOf]; omega
      · obtain rfl : k = len := by omega
        have hown := hP.tab.own
        have hB := hP.below
        rw [hl] at hown
        have hlen := len_ok g _ _ _ wr hown
        clear hP ra
        go_wp2_with (go_at_call 15; refine hlen.mono ?_; rintro e wm ⟨rfl, rfl⟩)
        go_ret
        exact ⟨by simp, hB⟩
theorem tablePlays_true (a0 : Int) (A : Option Addr) (len c : Nat) (w : World) (h1 : (Lit.int .u8 a0).wf = true)
    (h : len ≤ maxLen ∧ ∀ i, i < len → ∃ x, A = some x ∧ ∃ (c0 : Int) (c1 : Int) (c2 : Int) (c3 : Int) (c4 : Int), w.cell? (x.add (i * 5 + 0)) = some (.int .i8 c0) ∧ w.cell? (x.add (i * 5 + 1)) = some (.int .i8 c1) ∧ w.cell? (x.add (i * 5 + 2)) = some (.int .u8 c2) ∧ w.cell? (x.add (i * 5 + 3)) = some (.int .i8 c3) ∧ w.cell? (x.add (i * 5 + 4)) = some (.int .u64 c4) ∧
      (Lit.int .i8 c0).wf = true ∧ (Lit.int .i8 c1).wf = true ∧ (Lit.int .u8 c2).wf = true ∧ (Lit.int .i8 c3).wf = true ∧ (Lit.int .u64 c4).wf = true) :
    Calls Try.prog 5 #[.int .u8 a0, .slice A len c] w fun e w' => e = .returned (.bool true) ∧ Below w.heap.size w w' := by
  obtain ⟨n, rfl, hn⟩ := u8_nat h1
  exact tablePlays_walk n A len c w hn (acts_of h).2 (acts_of h).1
end Go.Proofs.Ytcnjpheeebjjbaa
