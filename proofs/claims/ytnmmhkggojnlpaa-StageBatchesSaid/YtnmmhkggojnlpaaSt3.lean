/- The walk of stage.View. No further condition. -/
import Derived.Test.YtnmmhkggojnlpaaRec
import Derived.Test.YtnmmhkggojnlpaaMap
namespace Go.Proofs.Ytnmmhkggojnlpaa
open Go.RowKit

/-! ### the view -/
def hasL (x : Int) (l : List Rc) : Bool := l.any fun s => s.lba == x
def vw : List Rc → List Rc
  | [] => []
  | r :: l => if hasL r.lba l then vw l else r :: vw l
theorem vw_sub : ∀ (l : List Rc), ∀ r ∈ vw l, r ∈ l := by
  intro l
  induction l with
  | nil => intro r h; exact h
  | cons a l ih =>
    intro r h
    unfold vw at h
    split at h
    · exact List.mem_cons_of_mem _ (ih r h)
    · rcases List.mem_cons.1 h with rfl | h
      · exact List.mem_cons_self
      · exact List.mem_cons_of_mem _ (ih r h)
theorem vw_len : ∀ (l : List Rc), (vw l).length ≤ l.length := by
  intro l
  induction l with
  | nil => exact Nat.le_refl _
  | cons a l ih =>
    unfold vw
    split <;> simp <;> omega
theorem vw_drop {l : List Rc} {k : Nat} {r : Rc} (h : l[k]? = some r) : vw (l.drop k) = if hasL r.lba (l.drop (k + 1)) then vw (l.drop (k + 1)) else r :: vw (l.drop (k + 1)) := by
  obtain ⟨hk, rfl⟩ := List.getElem?_eq_some_iff.1 h
  rw [List.drop_eq_getElem_cons hk]
  rfl
/-- What the map holds behind the first k. -/
def lst (l : List Rc) : Nat → Int → Option Int
  | 0 => fun _ => none
  | k + 1 => match l[k]? with
    | some r => upd (lst l k) r.lba k
    | none => lst l k
theorem lst_succ {l : List Rc} {k : Nat} {r : Rc} (h : l[k]? = some r) : lst l (k + 1) = upd (lst l k) r.lba k := by
  simp only [lst, h]
theorem lst_is {l : List Rc} {x : Int} : ∀ (n : Nat) (j : Int), lst l n x = some j → ∃ i : Nat, j = i ∧ i < n ∧ (∃ r, l[i]? = some r ∧ r.lba = x) ∧ ∀ i' r', i < i' → i' < n → l[i']? = some r' → r'.lba ≠ x := by
  intro n j
  induction n with
  | zero => intro h; simp [lst] at h
  | succ n ih =>
    intro h
    rcases hr : l[n]? with _ | r
    · simp only [lst, hr] at h
      obtain ⟨i, e, h1, h2, h3⟩ := ih h
      refine ⟨i, e, by omega, h2, fun i' r' h4 h5 h6 => ?_⟩
      rcases Nat.lt_or_ge i' n with h7 | h7
      · exact h3 i' r' h4 h7 h6
      · obtain rfl : i' = n := by omega
        rw [hr] at h6
        cases h6
    · rw [lst_succ hr] at h
      unfold upd at h
      split at h
      · rename_i hx
        injection h with h
        exact ⟨n, h.symm, by omega, ⟨r, hr, hx.symm⟩, fun i' r' h4 h5 => absurd h4 (by omega)⟩
      · rename_i hx
        obtain ⟨i, e, h1, h2, h3⟩ := ih h
        refine ⟨i, e, by omega, h2, fun i' r' h4 h5 h6 => ?_⟩
        rcases Nat.lt_or_ge i' n with h7 | h7
        · exact h3 i' r' h4 h7 h6
        · obtain rfl : i' = n := by omega
          rw [hr] at h6
          injection h6 with h6
          subst h6
          exact fun e => hx e.symm
theorem lst_some {l : List Rc} {x : Int} {i : Nat} {r : Rc} (h : l[i]? = some r) (hx : r.lba = x) : ∀ n, i < n → ∃ j, lst l n x = some j := by
  intro n
  induction n with
  | zero => intro h; omega
  | succ n ih =>
    intro hi
    rcases hr : l[n]? with _ | s
    · simp only [lst, hr]
      refine ih ?_
      rcases Nat.lt_or_ge i n with h7 | h7
      · exact h7
      · obtain rfl : i = n := by omega
        rw [hr] at h
        cases h
    · rw [lst_succ hr]
      unfold upd
      split
      · exact ⟨_, rfl⟩
      · rename_i hne
        refine ih ?_
        rcases Nat.lt_or_ge i n with h7 | h7
        · exact h7
        · obtain rfl : i = n := by omega
          rw [hr] at h
          injection h with h
          subst h
          exact absurd hx.symm hne
/-- The map's answer: is this record its block's last one? -/
theorem lst_last {l : List Rc} {k : Nat} {r : Rc} (h : l[k]? = some r) : ((lst l l.length r.lba).getD 0 == (k : Int)) = !hasL r.lba (l.drop (k + 1)) := by
  have hk := (List.getElem?_eq_some_iff.1 h).1
  obtain ⟨j, hj⟩ := lst_some h rfl l.length hk
  obtain ⟨i, rfl, h1, ⟨r', h2, h3⟩, h4⟩ := lst_is (x := r.lba) l.length j hj
  rw [hj, Option.getD_some]
  rcases hb : hasL r.lba (l.drop (k + 1)) with _ | _
  · have : i = k := by
      rcases Nat.lt_trichotomy i k with h7 | h7 | h7
      · exact absurd rfl (h4 k r h7 hk h)
      · exact h7
      · exfalso
        unfold hasL at hb
        rw [List.any_eq_false] at hb
        have hm : r' ∈ l.drop (k + 1) := List.mem_of_getElem? (i := i - (k + 1)) (by rw [List.getElem?_drop, show k + 1 + (i - (k + 1)) = i by omega]; exact h2)
        have := hb r' hm
        simp [h3] at this
    subst this
    simp
  · unfold hasL at hb
    rw [List.any_eq_true] at hb
    obtain ⟨s, hs, hse⟩ := hb
    obtain ⟨q, hq⟩ := List.getElem?_of_mem hs
    rw [List.getElem?_drop] at hq
    have hq1 := (List.getElem?_eq_some_iff.1 hq).1
    have hge : k + 1 + q ≤ i := by
      rcases Nat.lt_or_ge i (k + 1 + q) with h7 | h7
      · exact absurd (by simpa using hse) (h4 (k + 1 + q) s h7 hq1 hq)
      · exact h7
    simp
    omega
theorem MTii : MT Try.prog 48 3 3 .i64 := ⟨by kernel_rfl, by kernel_rfl, by kernel_rfl, fun _ => by kernel_rfl⟩
theorem upd_len {f : Int → Option Int} {i v : Int} : upd f i v i = some v := by simp [upd]
set_option maxRecDepth 100000 in
set_option maxHeartbeats 6400000 in
theorem view_ok (A : Option Addr) (c : Nat) (l : List Rc) (w : World) (ra : Rd w A (rcs l)) (hl : l.length ≤ 1000000) (hw : ∀ r ∈ l, (Lit.int .i64 r.lba).wf = true) :
    Calls Try.prog 11 #[.slice A l.length c] w fun e w' => ∃ v, e = .returned v ∧ w'.ownsRow w.heap.size 35 4 v (vw l).length (rcs (vw l)) ∧ Below w.heap.size w w' := by
  obtain ⟨i0, hi0, hz0, hz1, hz2⟩ := info_parts (show (Try.prog.info? 35).map (fun i => (i.zero, i.size, i.bytes)) = some (some (.agg #[.int .u64 0, .int .i64 0, .int .i64 0, .slice none 0 0]), 4, 48) by kernel_rfl)
  have HRA := Lib.hid ra
  have HW := Lib.hid hw
  have HM0 := Lib.hid (IM.made Try.prog 3 3 .i64 w rfl)
  have HB0 := Lib.hid ((Below.refl w.heap.size w).alloc (Nat.le_refl _) (.map #[] 0))
  have HV := Lib.hid (vw_len l)
  clear ra hw
  have hmm := @run_makeMap_ Try.prog
  go_enter Try.func11, Try.ntmps11
  go_wp2_with fail
  go_loopw [4, 5, 12] (fun _ _ i wr => ∃ k : Nat, k ≤ l.length ∧ i = .int .i64 k ∧ IM Try.prog 3 3 .i64 wr w.heap.size k (lst l k) ∧ Below w.heap.size w wr) (fun _ _ i _ => l.length - (intOf i).toNat)
  case atStart => exact ⟨0, by omega, rfl, HM0.out, HB0.out⟩
  case round =>
    obtain ⟨k, hk, rfl, him, hB⟩ := hrel
    by_cases hlt : k < l.length
    · obtain ⟨r, hr⟩ : ∃ r, l[k]? = some r := ⟨_, List.getElem?_eq_getElem hlt⟩
      obtain ⟨x, rfl, c0, c1, c2, c3⟩ := rd_at (HRA.out.later hB) hr
      have g1 : (k : Int) < l.length := by omega
      have HR := Lib.hid hr
      have HM := Lib.hid him
      have HB := Lib.hid hB
      have hBs := hB.size
      have HWF := Lib.hid (HW.out r (List.mem_of_getElem? hr))
      clear hr him hB
      go_wp2_with (at_mapUpdate; refine wpList_store rfl _ _ _ rfl MTii rfl (HM.out.later ((Below.refl _ _).alloc (Nat.le_refl _) _)) (by unfold maxLen; omega) rfl rfl HWF.out (i64_wf (by omega) (by omega)) ?_; intro w2 him2 hg2; rw [← lst_succ HR.out] at him2; have HM2 := Lib.hid him2; have HB2 := Lib.hid ((HB.out.alloc hBs _).grown hg2 (by simp; omega) fun b hb => by injection hb with hb; exact Nat.le_of_eq hb); clear him2 hg2)
      go_roundw
      case rel => exact ⟨k + 1, by omega, by go_num, HM2.out, HB2.out⟩
      case measure => simp [intOf]; omega
    · obtain rfl : k = l.length := by omega
      have HM := Lib.hid him
      have HB := Lib.hid hB
      clear him hB
      go_wp2_with fail
      go_loopw [6, 7, 8, 24] (fun v _ _ i wr => ∃ (k : Nat) (o : List Rc), k ≤ l.length ∧ i = .int .i64 k ∧ vw l = o ++ vw (l.drop k) ∧ wr.ownsRow w.heap.size 35 4 v o.length (rcs o) ∧ IM Try.prog 3 3 .i64 wr w.heap.size l.length (lst l l.length) ∧ Below w.heap.size w wr) (fun _ _ _ i _ => l.length - (intOf i).toNat)
      case atStart => exact ⟨0, [], by omega, rfl, by simp, World.ownsRow_nil _ _ _ _, HM.out, HB.out⟩
      case round =>
        obtain ⟨k, o, hk, rfl, ho, hown, him, hB⟩ := hrel
        by_cases hlt : k < l.length
        · obtain ⟨r, hr⟩ : ∃ r, l[k]? = some r := ⟨_, List.getElem?_eq_getElem hlt⟩
          obtain ⟨x, rfl, c0, c1, c2, c3⟩ := rd_at (HRA.out.later hB) hr
          have g1 : (k : Int) < l.length := by omega
          have hwf := HW.out r (List.mem_of_getElem? hr)
          have hlk := (him.later ((Below.refl _ _).alloc (Nat.le_refl _) (.cells #[.int .u64 r.seq, .int .i64 r.kind, .int .i64 r.lba, .slice r.A r.raw.length r.c] 35))).lookup MTii hwf
          have hlast := lst_last hr
          generalize (lst l l.length r.lba).getD 0 = j at hlk hlast
          have hol := HV.out
          rw [ho] at hol
          simp only [List.length_append] at hol
          rw [vw_drop hr] at ho
          have HM2 := Lib.hid him
          have HO := Lib.hid hown
          have HB2 := Lib.hid hB
          have hBs := hB.size
          clear hr him hown hB hwf
          rcases hh : hasL r.lba (l.drop (k + 1)) with _ | _
          · rw [hh] at hlast ho
            have HE := Lib.hid ho
            clear ho hh
            go_wp2_with (at_builtin; refine wpList_append_any _ rfl _ _ 25 rfl w.heap.size 35 i0 _ 4 48 Try.underlying25 hi0 hz0 hz1 hz2 rfl (by decide) _ o.length (rcs o) rfl ((HO.out.alloc _).alloc _) (some ⟨wr.heap.size + 1, 0, none⟩) 1 1 (rcv r) rfl rfl (Rd.blk_all (Blk.new_ _ _ _ (by simp))) (rcv_one r) (by unfold maxLen; omega) (by omega) (by simp; omega) ?_; intro v2 w2 hown2 hg2 hat2; rw [← rcs_snoc] at hown2; have HO2 := Lib.hid hown2; have HG2 := Lib.hid hg2; clear hown2 hg2 hat2)
            go_roundw
            case rel =>
              refine ⟨k + 1, o ++ [r], by omega, by go_num, by rw [HE.out]; simp, by rw [List.length_append]; exact HO2.out, ?_, ?_⟩
              · have him3 := HM2.out.later (((Below.refl _ _).alloc (Nat.le_refl _) (.cells #[.int .u64 r.seq, .int .i64 r.kind, .int .i64 r.lba, .slice r.A r.raw.length r.c] 35)).alloc (by simp) (.cells #[.int .u64 r.seq, .int .i64 r.kind, .int .i64 r.lba, .slice r.A r.raw.length r.c] 35))
                exact him3.fr (Fr.of_grown HG2.out) fun e => him3.not_own ((HO.out.alloc _).alloc _) e
              · exact ((HB2.out.alloc hBs _).alloc (by simp; omega) _).grown HG2.out (by simp; omega) fun b hb => (HO.out.lt b hb).1
            case measure => simp [intOf]; omega
          · rw [hh] at hlast ho
            have HE := Lib.hid ho
            clear ho hh
            go_wp2
            go_roundw
            case rel => exact ⟨k + 1, o, by omega, by go_num, by rw [HE.out]; simp, HO.out.alloc _, HM2.out.later ((Below.refl _ _).alloc (Nat.le_refl _) _), HB2.out.alloc hBs _⟩
            case measure => simp [intOf]; omega
        · obtain rfl : k = l.length := by omega
          rw [List.drop_length, vw, List.append_nil] at ho
          subst ho
          go_wp2
          go_ret
          exact ⟨_, rfl, hown, hB⟩
end Go.Proofs.Ytnmmhkggojnlpaa
