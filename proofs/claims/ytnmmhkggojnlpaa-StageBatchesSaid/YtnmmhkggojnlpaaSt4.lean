/- The walks of chapter 14's View, stage.Find, stage.Batch, and Awake. No further condition. -/
import Derived.Test.YtnmmhkggojnlpaaSt3
namespace Go.Proofs.Ytnmmhkggojnlpaa
open Go.RowKit

theorem hasL_snoc (x : Int) {l : List Rc} {k : Nat} {s : Rc} (h : l[k]? = some s) : hasL x (l.take (k + 1)) = (hasL x (l.take k) || (s.lba == x)) := by
  rw [take_snoc_pk h]
  simp [hasL]
set_option maxRecDepth 100000 in
set_option maxHeartbeats 6400000 in
theorem lview_ok (A : Option Addr) (c : Nat) (l : List Rc) (w : World) (ra : Rd w A (rcs l)) (hA : ∀ ad, A = some ad → ∃ h o, ad = ⟨h, o, none⟩) (hl : l.length ≤ 1000000) (hc : l.length ≤ c) :
    Calls Try.prog 12 #[.slice A l.length c] w fun e w' => ∃ v, e = .returned v ∧ w'.ownsRow w.heap.size 35 4 v (vw l).length (rcs (vw l)) ∧ Below w.heap.size w w' := by
  obtain ⟨i0, hi0, hz0, hz1, hz2⟩ := info_parts (show (Try.prog.info? 35).map (fun i => (i.zero, i.size, i.bytes)) = some (some (.agg #[.int .u64 0, .int .i64 0, .int .i64 0, .slice none 0 0]), 4, 48) by kernel_rfl)
  have HRA := Lib.hid ra
  have HV := Lib.hid (vw_len l)
  have HA := Lib.hid hA
  clear ra hA
  go_enter Try.func12, Try.ntmps12
  go_wp2
  go_loopw [3, 4, 5, 6, 8, 11] (fun v _ _ _ _ i wr => ∃ (k : Nat) (o : List Rc), k ≤ l.length ∧ i = .int .i64 k ∧ vw l = o ++ vw (l.drop k) ∧ wr.ownsRow w.heap.size 35 4 v o.length (rcs o) ∧ Below w.heap.size w wr) (fun _ _ _ _ _ i _ => l.length - (intOf i).toNat)
  case atStart => exact ⟨0, [], by omega, rfl, by simp, World.ownsRow_nil _ _ _ _, Below.refl _ _⟩
  case round =>
    obtain ⟨k, o, hk, rfl, ho, hown, hB⟩ := hrel
    obtain ⟨wo, hwo⟩ : ∃ wo, wo = wr := ⟨wr, rfl⟩
    subst hwo
    by_cases hlt : k < l.length
    · obtain ⟨r, hr⟩ : ∃ r, l[k]? = some r := ⟨_, List.getElem?_eq_getElem hlt⟩
      obtain ⟨x, hx, c0, c1, c2, c3⟩ := rd_at (HRA.out.later hB) hr
      obtain ⟨B, hB1, hB2, hsl⟩ := cut_row HA.out (HRA.out.later hB) hc (show k + 1 ≤ l.length by omega)
      have hsl1 := hsl ((k : Int) + 1) (by omega)
      subst hx
      have g1 : (k : Int) < l.length := by omega
      have HR := Lib.hid hr
      have hol := HV.out
      rw [ho] at hol
      simp only [List.length_append] at hol
      rw [vw_drop hr] at ho
      have HE := Lib.hid ho
      have HO := Lib.hid hown
      have HB := Lib.hid hB
      have hBs := hB.size
      have HRB := Lib.hid hB2
      have hdl : (l.drop (k + 1)).length = l.length - (k + 1) := List.length_drop
      obtain ⟨m, hm⟩ : ∃ m, m = l.drop (k + 1) := ⟨_, rfl⟩
      rw [← hm] at HRB hdl HE
      have HM := Lib.hid hm
      clear hr ho hown hB hB1 hB2 hsl hm
      go_wp2
      go_loopw [6, 8, 21] (fun b _ i wi => ∃ j : Nat, j ≤ m.length ∧ i = .int .i64 j ∧ b = .bool (!hasL r.lba (m.take j)) ∧ Below (wo.heap.size + 1) (wo.alloc (.cells #[.int .u64 r.seq, .int .i64 r.kind, .int .i64 r.lba, .slice r.A r.raw.length r.c] 35)) wi) (fun _ _ i _ => m.length - (intOf i).toNat)
      case atStart => exact ⟨0, by omega, rfl, rfl, Below.refl _ _⟩
      case round =>
        obtain ⟨j, hj, rfl, rfl, hBi⟩ := hrel
        have hbi := (Blk.new wo 35 #[.int .u64 r.seq, .int .i64 r.kind, .int .i64 r.lba, .slice r.A r.raw.length r.c]).below hBi (by simp)
        by_cases hjl : j < m.length
        · obtain ⟨s, hs⟩ : ∃ s, m[j]? = some s := ⟨_, List.getElem?_eq_getElem hjl⟩
          obtain ⟨y, rfl, d0, d1, d2, d3⟩ := rd_at ((HRB.out.alloc _).later (hBi.mono (by simp))) hs
          have q2 := (hbi.alloc (.cells #[.int .u64 s.seq, .int .i64 s.kind, .int .i64 s.lba, .slice s.A s.raw.length s.c] 35)).at_ (i := 2) rfl
          have HSN := Lib.hid (hasL_snoc r.lba hs)
          have g2 : (j : Int) < m.length := by omega
          have g3 : (j : Int) < ((l.length - (k + 1) : Nat) : Int) := by omega
          have HBI := Lib.hid hBi
          clear hs hBi hbi
          rcases hb : hasL r.lba (m.take j) with _ | _
          all_goals rw [hb] at HSN
          all_goals clear hb
          · rcases hsl : (s.lba == r.lba) with _ | _
            all_goals
              have hd : (s.lba != r.lba) = !(s.lba == r.lba) := rfl
              rw [hsl] at hd HSN
              clear hsl
              go_wp2
              go_roundw
              case rel => exact ⟨j + 1, by omega, by go_num, by rw [HSN.out]; first | rfl | simp, HBI.out.alloc (Nat.le_trans (by simp) HBI.out.size) _⟩
              case measure => simp [intOf]; omega
          · go_wp2
            go_roundw
            case rel => exact ⟨j + 1, by omega, by go_num, by rw [HSN.out]; first | rfl | simp, HBI.out.alloc (Nat.le_trans (by simp) HBI.out.size) _⟩
            case measure => simp [intOf]; omega
        · obtain rfl : j = m.length := by omega
          have HBI := Lib.hid hBi
          have HBK := Lib.hid hbi
          obtain ⟨q0, q1, q2, q3⟩ : wr.cell? ⟨wo.heap.size, 0, none⟩ = some (.int .u64 r.seq) ∧ wr.cell? ⟨wo.heap.size, 1, none⟩ = some (.int .i64 r.kind) ∧ wr.cell? ⟨wo.heap.size, 2, none⟩ = some (.int .i64 r.lba) ∧ wr.cell? ⟨wo.heap.size, 3, none⟩ = some (.slice r.A r.raw.length r.c) := ⟨hbi.at_ rfl, hbi.at_ rfl, hbi.at_ rfl, hbi.at_ rfl⟩
          have HBW : Hid (Below w.heap.size w wr) := Lib.hid ((HB.out.alloc hBs _).trans (hBi.mono (by omega)))
          have hBw := HBW.out.size
          have HOW := Lib.hid (ownsRow_later (HO.out.alloc _) (hBi.mono (by simp)))
          clear hBi hbi
          rw [List.take_length]
          have HMM := HM.out
          rcases hh : hasL r.lba m with _ | _
          · have HE2 : Hid (vw l = (o ++ [r]) ++ vw m) := Lib.hid (by rw [HE.out, hh]; simp)
            clear hh
            go_wp2_with (at_builtin; refine wpList_append_any _ rfl _ _ 25 rfl w.heap.size 35 i0 _ 4 48 Try.underlying25 hi0 hz0 hz1 hz2 rfl (by decide) _ o.length (rcs o) rfl (HOW.out.alloc _) (some ⟨wr.heap.size, 0, none⟩) 1 1 (rcv r) rfl rfl (Rd.blk_all (Blk.new_ _ _ _ rfl)) (rcv_one r) (by unfold maxLen; omega) (by omega) (by simp; omega) ?_; intro v2 w2 hown2 hg2 hat2; rw [← rcs_snoc] at hown2; have HO2 := Lib.hid hown2; have HG2 := Lib.hid hg2; clear hown2 hg2 hat2)
            go_roundw
            case rel => exact ⟨k + 1, o ++ [r], by omega, by go_num, by rw [← HMM]; exact HE2.out, by rw [List.length_append]; exact HO2.out, (HBW.out.alloc hBw _).grown HG2.out (by simp; omega) fun b hb => (HOW.out.lt b hb).1⟩
            case measure => simp [intOf]; omega
          · have HE2 : Hid (vw l = o ++ vw m) := Lib.hid (by rw [HE.out, hh]; simp)
            clear hh
            go_wp2
            go_roundw
            case rel => exact ⟨k + 1, o, by omega, by go_num, by rw [← HMM]; exact HE2.out, HOW.out, HBW.out⟩
            case measure => simp [intOf]; omega
    · obtain rfl : k = l.length := by omega
      rw [List.drop_length, vw, List.append_nil] at ho
      subst ho
      go_wp2
      go_ret
      exact ⟨_, rfl, hown, hB⟩
/-! ### a block's last record -/
def fnd (x : Int) : List Rc → Option Rc
  | [] => none
  | r :: l => match fnd x l with
    | some s => some s
    | none => if r.lba = x then some r else none
theorem fnd_none {x : Int} : ∀ l : List Rc, fnd x l = none ↔ hasL x l = false := by
  intro l
  induction l with
  | nil => simp [fnd, hasL]
  | cons r l ih =>
    have e : hasL x (r :: l) = ((r.lba == x) || hasL x l) := by simp [hasL]
    rw [e]
    unfold fnd
    rcases h : fnd x l with _ | s
    · rw [ih.1 h]
      by_cases hx : r.lba = x <;> simp [hx]
    · have : hasL x l = true := by
        rcases h2 : hasL x l with _ | _
        · rw [ih.2 h2] at h; cases h
        · rfl
      simp [this]
theorem fnd_drop {x : Int} {r : Rc} : ∀ (l : List Rc) (j : Nat), fnd x (l.drop j) = some r → fnd x l = some r := by
  intro l
  induction l with
  | nil => intro j h; simpa using h
  | cons a l ih =>
    intro j h
    cases j with
    | zero => exact h
    | succ j =>
      rw [List.drop_succ_cons] at h
      unfold fnd
      rw [ih j h]
theorem fnd_at {x : Int} {l : List Rc} {j : Nat} {r : Rc} (h : l[j]? = some r) (hx : r.lba = x) (hn : hasL x (l.drop (j + 1)) = false) : fnd x l = some r := by
  apply fnd_drop l j
  obtain ⟨hk, rfl⟩ := List.getElem?_eq_some_iff.1 h
  rw [List.drop_eq_getElem_cons hk]
  unfold fnd
  rw [(fnd_none _).2 hn]
  simp [hx]
theorem fnd_mem {x : Int} {r : Rc} : ∀ l : List Rc, fnd x l = some r → r ∈ l ∧ r.lba = x := by
  intro l
  induction l with
  | nil => intro h; simp [fnd] at h
  | cons a l ih =>
    intro h
    unfold fnd at h
    rcases h2 : fnd x l with _ | s
    · rw [h2] at h
      by_cases hx : a.lba = x
      · simp [hx] at h
        subst h
        exact ⟨List.mem_cons_self, hx⟩
      · simp [hx] at h
    · rw [h2] at h
      injection h with h
      subst h
      exact ⟨List.mem_cons_of_mem _ (ih h2).1, (ih h2).2⟩
theorem hasL_cons (x : Int) (r : Rc) (l : List Rc) : hasL x (r :: l) = ((r.lba == x) || hasL x l) := by simp [hasL]
theorem hasL_vw (x : Int) : ∀ l : List Rc, hasL x (vw l) = hasL x l := by
  intro l
  induction l with
  | nil => rfl
  | cons r l ih =>
    unfold vw
    split
    · rename_i h
      rw [ih, hasL_cons]
      by_cases hx : r.lba = x
      · rw [← hx, h]
        simp
      · simp [hx]
    · rw [hasL_cons, hasL_cons, ih]
theorem vw_vw : ∀ l : List Rc, vw (vw l) = vw l := by
  intro l
  induction l with
  | nil => rfl
  | cons r l ih =>
    rcases h : hasL r.lba l with _ | _
    · have e : vw (r :: l) = r :: vw l := by rw [vw, h]; rfl
      rw [e, vw, hasL_vw, h, ih]
      rfl
    · have e : vw (r :: l) = vw l := by rw [vw, h]; rfl
      rw [e, ih]
theorem fnd_vw (x : Int) : ∀ l : List Rc, fnd x (vw l) = fnd x l := by
  intro l
  induction l with
  | nil => rfl
  | cons r l ih =>
    rcases h : hasL r.lba l with _ | _
    · have e : vw (r :: l) = r :: vw l := by rw [vw, h]; rfl
      rw [e]
      simp only [fnd, ih]
    · have e : vw (r :: l) = vw l := by rw [vw, h]; rfl
      rw [e, ih]
      simp only [fnd]
      rcases h2 : fnd x l with _ | s
      · have h3 := (fnd_none l).1 h2
        by_cases hx : r.lba = x
        · rw [← hx, h] at h3
          cases h3
        · simp [hx]
      · rfl
/-- In a view no block comes twice. -/
theorem vw_last : ∀ (l : List Rc) (k : Nat) (r : Rc), (vw l)[k]? = some r → hasL r.lba ((vw l).drop (k + 1)) = false := by
  intro l
  induction l with
  | nil => intro k r h; simp [vw] at h
  | cons a l ih =>
    intro k r h
    rcases h2 : hasL a.lba l with _ | _
    · have e : vw (a :: l) = a :: vw l := by rw [vw, h2]; rfl
      rw [e] at h ⊢
      rw [List.drop_succ_cons]
      cases k with
      | zero =>
        simp at h
        subst h
        rw [List.drop_zero, hasL_vw, h2]
      | succ k =>
        rw [List.getElem?_cons_succ] at h
        exact ih k r h
    · have e : vw (a :: l) = vw l := by rw [vw, h2]; rfl
      rw [e] at h ⊢
      exact ih k r h
def rc0 : Rc := ⟨0, 0, 0, none, [], 0⟩
set_option maxRecDepth 100000 in
set_option maxHeartbeats 6400000 in
theorem find_ok (A : Option Addr) (c : Nat) (l : List Rc) (x : Int) (w : World) (ra : Rd w A (rcs l)) (hl : l.length ≤ 1000000) :
    Calls Try.prog 13 #[.slice A l.length c, .int .i64 x] w fun e w' => (∃ r, r = (fnd x l).getD rc0 ∧ e = .returned (.tuple #[.agg #[.int .u64 r.seq, .int .i64 r.kind, .int .i64 r.lba, .slice r.A r.raw.length r.c], .bool (fnd x l).isSome])) ∧ Below w.heap.size w w' := by
  have HRA := Lib.hid ra
  clear ra
  go_enter Try.func13, Try.ntmps13
  go_wp2
  go_loopw [6] (fun i wr => ∃ j : Nat, j ≤ l.length ∧ i = .int .i64 ((j : Int) - 1) ∧ hasL x (l.drop j) = false ∧ wr = w.alloc (.cells #[.int .u64 0, .int .i64 0, .int .i64 0, .slice none 0 0] 35)) (fun i _ => (intOf i + 1).toNat)
  case atStart => exact ⟨l.length, Nat.le_refl _, rfl, by rw [List.drop_length]; rfl, rfl⟩
  case round =>
    obtain ⟨j, hj, rfl, hh, rfl⟩ := hrel
    rcases j with _ | j
    · rw [List.drop_zero] at hh
      have HF := Lib.hid ((fnd_none l).2 hh)
      clear hh
      rw [show ((0 : Nat) : Int) - 1 = -1 from rfl]
      go_wp2
      (try simp only [Exit.inBlock, Exit.then])
      refine bodyPost_ret (results_cell2_row rfl (g := w.heap.size) (t := 35) _ rfl (Blk.new_ _ _ _ rfl) Try.underlying35 rfl (by kernel_rfl)) rfl ?_
      exact ⟨⟨_, rfl, by rw [HF.out]; rfl⟩, (Below.refl _ _).alloc (Nat.le_refl _) _⟩
    · have hji : ((j + 1 : Nat) : Int) - 1 = (j : Int) := by omega
      rw [hji]
      obtain ⟨r, hr⟩ : ∃ r, l[j]? = some r := ⟨_, List.getElem?_eq_getElem hj⟩
      obtain ⟨ad, rfl, c0, c1, c2, c3⟩ := rd_at (HRA.out.alloc (.cells #[.int .u64 0, .int .i64 0, .int .i64 0, .slice none 0 0] 35)) hr
      have g1 : (j : Int) < l.length := by omega
      by_cases hx : r.lba = x
      · have HF := Lib.hid (fnd_at hr hx hh)
        have hd : (r.lba == x) = true := by simp [hx]
        clear hr hh hx
        go_wp2
        (try simp only [Exit.inBlock, Exit.then])
        refine bodyPost_ret (results_cell2_row rfl (g := w.heap.size) (t := 35) _ rfl (Blk.new_ _ _ _ rfl) Try.underlying35 rfl (by kernel_rfl)) rfl ?_
        exact ⟨⟨_, rfl, by rw [HF.out]; rfl⟩, (Below.refl _ _).alloc (Nat.le_refl _) _⟩
      · have HH : Hid (hasL x (l.drop j) = false) := Lib.hid (by
          obtain ⟨hk, e⟩ := List.getElem?_eq_some_iff.1 hr
          rw [List.drop_eq_getElem_cons hk, hasL_cons, e, hh]
          simp [hx])
        have hd : (r.lba == x) = false := by simp [hx]
        clear hr hh hx
        go_wp2
        go_roundw
        case rel => exact ⟨j, by omega, by go_num, HH.out, trivial⟩
        case measure => simp [intOf]
def l3 : List Rc := [⟨1, 0, 1, none, [], 0⟩, ⟨2, 0, 2, none, [], 0⟩, ⟨3, 0, 1, none, [], 0⟩]
set_option maxHeartbeats 3200000 in
theorem awake_ok (w : World) : Calls Try.prog 8 #[] w fun e w' => e = .returned (.bool true) ∧ Below w.heap.size w w' := by
  have HB0 := Lib.hid ((Below.refl w.heap.size w).alloc (Nat.le_refl _) (.cells (rcs l3).toArray 35))
  have HRD := Lib.hid (Rd.blk_all (Blk.new w 35 (rcs l3).toArray))
  have hv : vw l3 = [⟨2, 0, 2, none, [], 0⟩, ⟨3, 0, 1, none, [], 0⟩] := by rfl
  have HWF : Hid (∀ r ∈ l3, (Lit.int .i64 r.lba).wf = true) := Lib.hid (by decide)
  go_enter Try.func8, Try.ntmps8
  go_wp2_with (go_at_call 11; refine (view_ok _ 3 l3 _ HRD.out (by decide) HWF.out).mono ?_; rintro e w1 ⟨v, rfl, hown, hb⟩; rw [hv] at hown; obtain ⟨A, c, rfl, hA, hrd⟩ := own_form hown; obtain ⟨x, rfl, q0, q1, q2, q3⟩ := rd_at hrd (i := 0) rfl; obtain ⟨x', e', q4, q5, q6, q7⟩ := rd_at hrd (i := 1) rfl; obtain ⟨hx, ex⟩ := hA x rfl; injection e' with e'; subst ex; subst e'; rw [add_zero_addr] at q0 q1 q2 q3 q4 q5 q6 q7; have HB1 := Lib.hid (HB0.out.trans (hb.mono (by simp))); clear hb hown hA hrd)
  go_ret
  exact ⟨rfl, HB1.out⟩
end Go.Proofs.Ytnmmhkggojnlpaa
