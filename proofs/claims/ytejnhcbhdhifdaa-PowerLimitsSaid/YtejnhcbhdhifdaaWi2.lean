/- The walk of PowerWithin's outer closure. No further condition. -/
import Derived.Test.YtejnhcbhdhifdaaWit
namespace Go.Proofs.Ytejnhcbhdhifdaa
open Go.RowKit

theorem Whole.ne_ {w : World} {g g' : Nat} {t t' : TypeId} {cs cs' : Array Value} (h : Whole w g t cs) (h' : Whole w g' t' cs') (hne : t ≠ t') : g ≠ g' := by
  rintro rfl
  unfold Whole at h h'
  rw [h] at h'
  injection h' with h'
  injection h' with _ ht
  exact hne ht

/-- What the outer closure leaves. -/
structure Out (w w' : World) (B g ib qb : Nat) (lim v : Int) (r : Bool) : Prop where
  below : Below B w w'
  pow : Whole w' g 38 #[.int .i64 v, .int .i64 lim]
  inn : Whole w' ib 4 #[.bool r]
  past : Whole w' qb 4 #[.bool true]
  kept : ∀ b t cs, Whole w b t cs → b ≠ g → b ≠ ib → b ≠ qb → Whole w' b t cs

/-- Behind the inner run, both flags set. -/
structure Mid (w w2 : World) (B g pb ib qb ob : Nat) (lim a : Int) (r : Bool) (o : Nat) : Prop where
  below : Below B w w2
  pow : Whole w2 g 38 #[.int .i64 a, .int .i64 lim]
  inn : Whole w2 ib 4 #[.bool r]
  past : Whole w2 qb 4 #[.bool true]
  op : Whole w2 ob 5 #[.int .u8 o]
  pp : Whole w2 pb 24 #[.pointer (some ⟨g, 0, none⟩)]
  kept : ∀ b t cs, Whole w b t cs → b ≠ g → b ≠ ib → b ≠ qb → Whole w2 b t cs

theorem mid_of {w w1 : World} {B g pb ib qb ob : Nat} {lim a : Int} {r b0 b1 : Bool} {o : Nat} (hB : Below B w w1) (hg1 : Whole w1 g 38 #[.int .i64 a, .int .i64 lim])
    (hk1 : ∀ b t cs, Whole w b t cs → b ≠ g → Whole w1 b t cs) (hp : Whole w pb 24 #[.pointer (some ⟨g, 0, none⟩)]) (hO : Whole w ob 5 #[.int .u8 o])
    (hi : Whole w ib 4 #[.bool b0]) (hq : Whole w qb 4 #[.bool b1]) (hg : Whole w g 38 #[.int .i64 0, .int .i64 lim]) (hne : ib ≠ qb) (h1 : B ≤ ib) (h2 : B ≤ qb) :
    Mid w ((w1.setCell ⟨ib, 0, none⟩ (.bool r)).setCell ⟨qb, 0, none⟩ (.bool true)) B g pb ib qb ob lim a r o := by
  have n1 := hi.ne_ hg (by decide)
  have n2 := hq.ne_ hg (by decide)
  have n3 := hp.ne_ hg (by decide)
  have n4 := hO.ne_ hg (by decide)
  have n5 := hp.ne_ hi (by decide)
  have n6 := hp.ne_ hq (by decide)
  have n7 := hO.ne_ hi (by decide)
  have n8 := hO.ne_ hq (by decide)
  exact ⟨(hB.setCell h1 _).setCell h2 _, (hg1.past (Ne.symm n1) _).past (Ne.symm n2) _, ((hk1 _ _ _ hi n1).set_ 0 _).past hne _, ((hk1 _ _ _ hq n2).past (Ne.symm hne) _).set_ 0 _,
    ((hk1 _ _ _ hO n4).past n7 _).past n8 _, ((hk1 _ _ _ hp n3).past n5 _).past n6 _, fun b t cs h e1 e2 e3 => ((hk1 _ _ _ h e1).past e2 _).past e3 _⟩

theorem Mid.done {w w2 w3 : World} {B g pb ib qb ob : Nat} {lim a v : Int} {r : Bool} {o : Nat} (h : Mid w w2 B g pb ib qb ob lim a r o) (hP : Pw w2 w3 g lim v) (hB : B ≤ g) (hs : B ≤ w.heap.size) :
    Out w w3 B g ib qb lim v r := by
  have n1 := h.inn.ne_ h.pow (by decide)
  have n2 := h.past.ne_ h.pow (by decide)
  refine ⟨h.below.grown hP.grown (Nat.le_trans hs h.below.size) (by rintro k hk; injection hk with hk; omega), hP.whole, h.inn.pw hP n1, h.past.pw hP n2, fun b t cs hb e1 e2 e3 => (h.kept b t cs hb e1 e2 e3).pw hP e1⟩

set_option maxHeartbeats 1600000 in
theorem outer_all (B g tb pb ib qb ob : Nat) (lim : Int) (t o : Nat) (b0 b1 : Bool) (w : World) (hg : Whole w g 38 #[.int .i64 0, .int .i64 lim])
    (hT : Whole w tb 5 #[.int .u8 t]) (hp : Whole w pb 24 #[.pointer (some ⟨g, 0, none⟩)]) (hi : Whole w ib 4 #[.bool b0]) (hq : Whole w qb 4 #[.bool b1]) (hO : Whole w ob 5 #[.int .u8 o])
    (hne : ib ≠ qb) (h1 : B ≤ ib) (h2 : B ≤ qb) (hB : B ≤ g) (hs : B ≤ w.heap.size) (ht : t ≤ 255) (ho : o ≤ 255) (hl : 0 ≤ lim) (hl2 : lim ≤ 39) (hsum : min lim ((t : Int) % 40) + (o % 40 : Nat) ≤ lim) :
    Calls Try.prog 17 #[.pointer (some ⟨tb, 0, none⟩), .pointer (some ⟨pb, 0, none⟩), .pointer (some ⟨ib, 0, none⟩), .pointer (some ⟨qb, 0, none⟩), .pointer (some ⟨ob, 0, none⟩)] w
      fun e w' => e = .returned (.tuple #[]) ∧ Out w w' B g ib qb lim (min lim ((t : Int) % 40) + (o % 40 : Nat)) (decide (lim < (t : Int) % 40)) := by
  have hmf : ∀ (fn : Fn) (first cap : Array Value) (w : World), (Instr.makeFunc fn first cap).run Try.prog w = .ok (.func fn first cap) w := fun _ _ _ _ => rfl
  have n1 := hT.ne_ hg (by decide)
  have n2 := hp.ne_ hg (by decide)
  have n3 := hi.ne_ hg (by decide)
  have n4 := hq.ne_ hg (by decide)
  have hR := run_inner B g tb pb lim t w hg hT hp n1 n2 ht hB hl
  obtain ⟨rr, hrr⟩ : ∃ rr : Bool, rr = decide (lim < (t : Int) % 40) := ⟨_, rfl⟩
  obtain ⟨aa, haa⟩ : ∃ aa : Int, aa = min lim ((t : Int) % 40) := ⟨_, rfl⟩
  rw [← hrr, ← haa]
  rw [← haa] at hsum
  have ha0 : 0 ≤ aa := by omega
  have ha1 : aa ≤ lim := by omega
  have HRR := Lib.hid hrr
  have HAA := Lib.hid haa
  clear hrr haa
  go_enter Try.func17, Try.ntmps17
  go_wp2_with fail
  refine hR.mono ?_
  rintro e w1 ⟨r, a, hr, ha, rfl, hB1, hg1, hk1⟩
  rw [← HRR.out] at hr
  rw [← HAA.out] at ha
  subst hr ha
  have hi1 := hk1 _ _ _ hi n3
  have hq1 := hk1 _ _ _ hq n4
  have hM := mid_of (r := r) (o := o) hB1 hg1 hk1 hp hO hi hq hg hne h1 h2
  have c1 : w1.cell? ⟨ib, 0, none⟩ = some (.bool b0) := (hi1.cell 0).trans rfl
  have f1 : w1.frozen? ⟨ib, 0, none⟩ = false := hi1.frozen 0
  have c2 : (w1.setCell ⟨ib, 0, none⟩ (.bool r)).cell? ⟨qb, 0, none⟩ = some (.bool b1) := ((hq1.past (Ne.symm hne) _).cell 0).trans rfl
  have f2 : (w1.setCell ⟨ib, 0, none⟩ (.bool r)).frozen? ⟨qb, 0, none⟩ = false := (hq1.past (Ne.symm hne) _).frozen 0
  have c3 : ((w1.setCell ⟨ib, 0, none⟩ (.bool r)).setCell ⟨qb, 0, none⟩ (.bool true)).cell? ⟨ob, 0, none⟩ = some (.int .u8 o) := (hM.op.cell 0).trans rfl
  clear hR hk1 hi hq hT hO hp
  go_wp2
  obtain ⟨W2, hW2⟩ : ∃ W2, W2 = ((w1.setCell ⟨ib, 0, none⟩ (.bool r)).setCell ⟨qb, 0, none⟩ (.bool true)) := ⟨_, rfl⟩
  rw [← hW2] at hM ⊢
  have HW2 := Lib.hid hW2
  clear hW2 c1 f1 c2 f2 c3
  have hr := Pw.refl hM.pow
  go_loopw [9] (fun v wr => ∃ i : Nat, v = .int .u8 i ∧ i ≤ (o % 40 : Nat) ∧ Pw W2 wr g lim (a + i)) (fun v _ => (o % 40 : Nat) - (intOf v).toNat)
  case atStart => exact ⟨0, by simp, by omega, by simpa using hr⟩
  case round =>
    obtain ⟨i, rfl, hi, hP⟩ := hrel
    have hcp1 : wr.cell? ⟨pb, 0, none⟩ = some (.pointer (some ⟨g, 0, none⟩)) := ((hM.pp.pw hP n2).cell 0).trans rfl
    rcases Nat.lt_or_ge i (o % 40 : Nat) with h | h
    · have hd : decide ((i : Int) < ((o % 40 : Nat) : Int)) = true := by simp; omega
      have hk := tick_can g (a + i) lim wr hP.whole (by omega) (by omega) (by omega)
      go_wp2_with (go_at_call 12; refine hk.mono ?_; rintro e w1 ⟨rfl, hQ⟩)
      go_roundw
      case rel => exact ⟨i + 1, by simp, by omega, by have := hP.trans hQ; rw [Int.add_assoc] at this; exact this⟩
      case measure => simp [intOf]; omega
    · have hd : decide ((i : Int) < ((o % 40 : Nat) : Int)) = false := by simp; omega
      have hit : i = (o % 40 : Nat) := by omega
      subst hit
      go_wp2
      go_end0
      exact ⟨rfl, hM.done hP hB hs⟩

set_option maxHeartbeats 1600000 in
theorem outer_off (B g tb pb ib qb ob : Nat) (lim : Int) (t o : Nat) (b0 b1 : Bool) (w : World) (hg : Whole w g 38 #[.int .i64 0, .int .i64 lim])
    (hT : Whole w tb 5 #[.int .u8 t]) (hp : Whole w pb 24 #[.pointer (some ⟨g, 0, none⟩)]) (hi : Whole w ib 4 #[.bool b0]) (hq : Whole w qb 4 #[.bool b1]) (hO : Whole w ob 5 #[.int .u8 o])
    (hne : ib ≠ qb) (h1 : B ≤ ib) (h2 : B ≤ qb) (hB : B ≤ g) (hs : B ≤ w.heap.size) (ht : t ≤ 255) (ho : o ≤ 255) (hl : 0 ≤ lim) (hl2 : lim ≤ 39) (hsum : lim < min lim ((t : Int) % 40) + (o % 40 : Nat)) :
    Calls Try.prog 17 #[.pointer (some ⟨tb, 0, none⟩), .pointer (some ⟨pb, 0, none⟩), .pointer (some ⟨ib, 0, none⟩), .pointer (some ⟨qb, 0, none⟩), .pointer (some ⟨ob, 0, none⟩)] w
      fun e w' => e = .panicked gone ∧ Out w w' B g ib qb lim lim (decide (lim < (t : Int) % 40)) := by
  have hmf : ∀ (fn : Fn) (first cap : Array Value) (w : World), (Instr.makeFunc fn first cap).run Try.prog w = .ok (.func fn first cap) w := fun _ _ _ _ => rfl
  have n1 := hT.ne_ hg (by decide)
  have n2 := hp.ne_ hg (by decide)
  have n3 := hi.ne_ hg (by decide)
  have n4 := hq.ne_ hg (by decide)
  have hR := run_inner B g tb pb lim t w hg hT hp n1 n2 ht hB hl
  obtain ⟨rr, hrr⟩ : ∃ rr : Bool, rr = decide (lim < (t : Int) % 40) := ⟨_, rfl⟩
  obtain ⟨aa, haa⟩ : ∃ aa : Int, aa = min lim ((t : Int) % 40) := ⟨_, rfl⟩
  rw [← hrr]
  rw [← haa] at hsum
  have ha0 : 0 ≤ aa := by omega
  have ha1 : aa ≤ lim := by omega
  have HRR := Lib.hid hrr
  have HAA := Lib.hid haa
  clear hrr haa
  go_enter Try.func17, Try.ntmps17
  go_wp2_with fail
  refine hR.mono ?_
  rintro e w1 ⟨r, a, hr, ha, rfl, hB1, hg1, hk1⟩
  rw [← HRR.out] at hr
  rw [← HAA.out] at ha
  subst hr ha
  have hi1 := hk1 _ _ _ hi n3
  have hq1 := hk1 _ _ _ hq n4
  have hM := mid_of (r := r) (o := o) hB1 hg1 hk1 hp hO hi hq hg hne h1 h2
  have c1 : w1.cell? ⟨ib, 0, none⟩ = some (.bool b0) := (hi1.cell 0).trans rfl
  have f1 : w1.frozen? ⟨ib, 0, none⟩ = false := hi1.frozen 0
  have c2 : (w1.setCell ⟨ib, 0, none⟩ (.bool r)).cell? ⟨qb, 0, none⟩ = some (.bool b1) := ((hq1.past (Ne.symm hne) _).cell 0).trans rfl
  have f2 : (w1.setCell ⟨ib, 0, none⟩ (.bool r)).frozen? ⟨qb, 0, none⟩ = false := (hq1.past (Ne.symm hne) _).frozen 0
  have c3 : ((w1.setCell ⟨ib, 0, none⟩ (.bool r)).setCell ⟨qb, 0, none⟩ (.bool true)).cell? ⟨ob, 0, none⟩ = some (.int .u8 o) := (hM.op.cell 0).trans rfl
  clear hR hk1 hi hq hT hO hp
  go_wp2
  obtain ⟨W2, hW2⟩ : ∃ W2, W2 = ((w1.setCell ⟨ib, 0, none⟩ (.bool r)).setCell ⟨qb, 0, none⟩ (.bool true)) := ⟨_, rfl⟩
  rw [← hW2] at hM ⊢
  have HW2 := Lib.hid hW2
  clear hW2 c1 f1 c2 f2 c3
  have hr := Pw.refl hM.pow
  go_loopw [9] (fun v wr => ∃ i : Nat, v = .int .u8 i ∧ i ≤ (o % 40 : Nat) ∧ a + i ≤ lim ∧ Pw W2 wr g lim (a + i)) (fun v _ => (o % 40 : Nat) - (intOf v).toNat)
  case atStart => exact ⟨0, by simp, by omega, by omega, by simpa using hr⟩
  case round =>
    obtain ⟨i, rfl, hi, hil, hP⟩ := hrel
    have hcp1 : wr.cell? ⟨pb, 0, none⟩ = some (.pointer (some ⟨g, 0, none⟩)) := ((hM.pp.pw hP n2).cell 0).trans rfl
    have h : i < (o % 40 : Nat) := by omega
    have hd : decide ((i : Int) < ((o % 40 : Nat) : Int)) = true := by simp; omega
    rcases Int.lt_or_le (a + i) lim with hlt | hge
    · have hk := tick_can g (a + i) lim wr hP.whole (by omega) (by omega) (by omega)
      go_wp2_with (go_at_call 12; refine hk.mono ?_; rintro e w1 ⟨rfl, hQ⟩)
      go_roundw
      case rel => exact ⟨i + 1, by simp, by omega, by omega, by have := hP.trans hQ; rw [Int.add_assoc] at this; exact this⟩
      case measure => simp [intOf]; omega
    · have he : a + i = lim := by omega
      have hk := tick_off g (a + i) lim wr hP.whole (by omega) (by omega)
      go_wp2_with (go_at_call 12; refine hk.mono ?_; rintro e w1 ⟨rfl, hQ⟩)
      rw [he] at hP hQ
      exact ⟨rfl, rfl, hM.done (hP.trans hQ) hB hs⟩

theorem Out.of_ends {w w1 : World} {B g ib qb : Nat} {lim v : Int} {r b : Bool} (h : Out (w.alloc (.cells #[.bool false] 4)) w1 B g ib qb lim v r) (hB : B ≤ w.heap.size) (h1 : ib < w.heap.size) (h2 : qb < w.heap.size) (h3 : g < w.heap.size) :
    Out w (w1.setCell ⟨w.heap.size, 0, none⟩ (.bool b)) B g ib qb lim v r :=
  ⟨(((Below.refl B w).alloc hB _).trans h.below).setCell hB _, h.pow.past (show g ≠ w.heap.size by omega) _, h.inn.past (show ib ≠ w.heap.size by omega) _, h.past.past (show qb ≠ w.heap.size by omega) _,
    fun b t cs hb e1 e2 e3 => (h.kept b t cs (hb.alloc _) e1 e2 e3).past (show b ≠ w.heap.size by have := hb.lt; omega) _⟩
theorem Out.of_gone {w w1 : World} {B g ib qb : Nat} {lim v : Int} {r b : Bool} {o : Obj} (h : Out (w.alloc (.cells #[.bool false] 4)) w1 B g ib qb lim v r) (hB : B ≤ w.heap.size) (h1 : ib < w.heap.size) (h2 : qb < w.heap.size) (h3 : g < w.heap.size) :
    Out w ((w1.alloc o).setCell ⟨w.heap.size, 0, none⟩ (.bool b)) B g ib qb lim v r := by
  have hs := h.below.size
  simp at hs
  exact ⟨((((Below.refl B w).alloc hB _).trans h.below).alloc (by omega) _).setCell hB _, (h.pow.alloc _).past (show g ≠ w.heap.size by omega) _, (h.inn.alloc _).past (show ib ≠ w.heap.size by omega) _, (h.past.alloc _).past (show qb ≠ w.heap.size by omega) _,
    fun b t cs hb e1 e2 e3 => ((h.kept b t cs (hb.alloc _) e1 e2 e3).alloc _).past (show b ≠ w.heap.size by have := hb.lt; omega) _⟩

theorem run_outer (B g tb pb ib qb ob : Nat) (lim : Int) (t o : Nat) (b0 b1 : Bool) (w : World) (hg : Whole w g 38 #[.int .i64 0, .int .i64 lim])
    (hT : Whole w tb 5 #[.int .u8 t]) (hp : Whole w pb 24 #[.pointer (some ⟨g, 0, none⟩)]) (hi : Whole w ib 4 #[.bool b0]) (hq : Whole w qb 4 #[.bool b1]) (hO : Whole w ob 5 #[.int .u8 o])
    (hne : ib ≠ qb) (h1 : B ≤ ib) (h2 : B ≤ qb) (hB : B ≤ g) (hs : B ≤ w.heap.size) (ht : t ≤ 255) (ho : o ≤ 255) (hl : 0 ≤ lim) (hl2 : lim ≤ 39) :
    Calls Try.prog 10 #[.func (.func 17) #[] #[.pointer (some ⟨tb, 0, none⟩), .pointer (some ⟨pb, 0, none⟩), .pointer (some ⟨ib, 0, none⟩), .pointer (some ⟨qb, 0, none⟩), .pointer (some ⟨ob, 0, none⟩)]] w
      fun e w' => e = .returned (.bool (decide (lim < min lim ((t : Int) % 40) + (o : Int) % 40))) ∧ Out w w' B g ib qb lim (min lim (min lim ((t : Int) % 40) + (o : Int) % 40)) (decide (lim < (t : Int) % 40)) := by
  have l1 := hi.lt
  have l2 := hq.lt
  have l3 := hg.lt
  have hn := Whole.new w 4 #[.bool false]
  rcases Int.lt_or_le lim (min lim ((t : Int) % 40) + (o : Int) % 40) with h | h
  · have h' : lim < min lim ((t : Int) % 40) + (o % 40 : Nat) := by omega
    refine (run_gone 17 _ w (fun w1 => Out (w.alloc (.cells #[.bool false] 4)) w1 B g ib qb lim lim (decide (lim < (t : Int) % 40))) (enter_17 _) ?_).mono ?_
    · refine (outer_off B g tb pb ib qb ob lim t o b0 b1 _ (hg.alloc _) (hT.alloc _) (hp.alloc _) (hi.alloc _) (hq.alloc _) (hO.alloc _) hne h1 h2 hB (by simp; omega) ht ho hl hl2 h').mono ?_
      rintro e w' ⟨rfl, hO⟩
      exact ⟨rfl, hO.kept _ _ _ hn (by omega) (by omega) (by omega), hO⟩
    · rintro e w' ⟨rfl, w1, -, hO, rfl⟩
      have e1 : min lim (min lim ((t : Int) % 40) + (o : Int) % 40) = lim := by omega
      rw [e1, decide_eq_true h]
      exact ⟨rfl, hO.of_gone hs l1 l2 l3⟩
  · have h' : min lim ((t : Int) % 40) + (o % 40 : Nat) ≤ lim := by omega
    refine (run_ends 17 _ w (fun w1 => Out (w.alloc (.cells #[.bool false] 4)) w1 B g ib qb lim (min lim ((t : Int) % 40) + (o % 40 : Nat)) (decide (lim < (t : Int) % 40))) (enter_17 _) ?_).mono ?_
    · refine (outer_all B g tb pb ib qb ob lim t o b0 b1 _ (hg.alloc _) (hT.alloc _) (hp.alloc _) (hi.alloc _) (hq.alloc _) (hO.alloc _) hne h1 h2 hB (by simp; omega) ht ho hl hl2 h').mono ?_
      rintro e w' ⟨rfl, hO⟩
      exact ⟨rfl, hO.kept _ _ _ hn (by omega) (by omega) (by omega), hO⟩
    · rintro e w' ⟨rfl, w1, -, hO, rfl⟩
      have e1 : min lim (min lim ((t : Int) % 40) + (o : Int) % 40) = min lim ((t : Int) % 40) + (o : Int) % 40 := by omega
      have e2 : ¬ lim < min lim ((t : Int) % 40) + (o : Int) % 40 := by omega
      rw [e1, decide_eq_false e2]
      exact ⟨rfl, by simpa using hO.of_ends hs l1 l2 l3⟩
end Go.Proofs.Ytejnhcbhdhifdaa
