/- The walk of stage.Batch. No further condition. -/
import Derived.Test.YtnmmhkggojnlpaaSt6
namespace Go.Proofs.Ytnmmhkggojnlpaa
open Go.RowKit
attribute [local go_sem] go_max2 go_min2 go_max_two go_min_two

/-- A batch. -/
def bt (l : List Rc) (m : Int) : List Rc := (vw l).take (mxI m 0).toNat
/-- How far a batch goes. -/
def ups (l : List Rc) (m : Int) : Int := match (bt l m).getLast? with
  | some r => r.seq
  | none => 0
theorem bt_mem {l : List Rc} {m : Int} : ∀ r ∈ bt l m, r ∈ l := fun r h => vw_sub l r (List.mem_of_mem_take h)
theorem RR.take {w : World} {A : Option Addr} {c : Nat} {l : List Rc} (k : RR w A c l) (n : Nat) : RR w A c (l.take n) where
  rd := by rw [← rcs_take]; exact k.rd.take_ _
  hd := k.hd.sub fun r h => List.mem_of_mem_take h
  form := k.form
  cap := Nat.le_trans (by rw [List.length_take]; omega) k.cap
  few := Nat.le_trans (by rw [List.length_take]; omega) k.few
  wf := fun r h => k.wf r (List.mem_of_mem_take h)
  raw := fun r h => k.raw r (List.mem_of_mem_take h)
theorem RR.nil (w : World) : RR w none 0 [] := ⟨Rd.nil _ _, (fun r h => by simp at h), (fun ad e => by cases e), Nat.le_refl _, (by simp), (fun r h => by simp at h), (fun r h => by simp at h)⟩
set_option maxRecDepth 100000 in
set_option maxHeartbeats 6400000 in
theorem batch_rr (A : Option Addr) (c : Nat) (l : List Rc) (m : Int) (w : World) (k : RR w A c l) :
    Calls Try.prog 14 #[.slice A l.length c, .int .i64 m] w fun e w' => ∃ B d, e = .returned (.tuple #[.slice B (bt l m).length d, .int .u64 (ups l m)]) ∧ RR w' B d (bt l m) ∧ Below w.heap.size w w' := by
  have HK := Lib.hid k
  have hn : (bt l m).length = min (mxI m 0).toNat (vw l).length := List.length_take
  have hmx : 0 ≤ mxI m 0 := by unfold mxI; split <;> omega
  have hz : mnI (mxI m 0) (vw l).length = ((bt l m).length : Int) := by
    rw [hn]
    unfold mnI
    split <;> omega
  have hnl : (bt l m).length ≤ (vw l).length := by omega
  have hzz := fun (B : Option Addr) (d : Nat) (h : (vw l).length ≤ d) (W : World) => cut_lo_ 25 4 (by kernel_rfl) (fun _ => by kernel_rfl) B (vw l).length d (bt l m).length (mnI (mxI m 0) (vw l).length) hz (by omega) W
  have HZ := Lib.hid hzz
  have HT : Hid (bt l m = (vw l).take (mxI m 0).toNat) := Lib.hid rfl
  obtain ⟨b, hb⟩ : ∃ b, b = bt l m := ⟨_, rfl⟩
  have HU : Hid (ups l m = match b.getLast? with | some r => r.seq | none => 0) := Lib.hid (by rw [hb]; rfl)
  rw [← hb] at HT HZ hnl ⊢
  obtain ⟨u, hu⟩ : ∃ u, u = ups l m := ⟨_, rfl⟩
  rw [← hu] at HU ⊢
  have hfw : (vw l).length ≤ 1000 := Nat.le_trans (vw_len l) k.few
  clear k hn hz hzz hb hu hmx
  go_enter Try.func14, Try.ntmps14
  rcases b.eq_nil_or_concat with rfl | ⟨b0, r, hbr⟩
  · go_wp2_with (go_at_call 11; refine (sview_rr A c l _ HK.out).mono ?_; rintro e w2 ⟨B, d, rfl, hrr, hb2⟩; have HR := Lib.hid hrr; have HB := Lib.hid hb2; have hcl := HZ.out B d hrr.cap; rw [List.length_nil] at hcl; clear hrr hb2)
    obtain rfl : u = 0 := HU.out
    go_ret2
    exact ⟨none, 0, rfl, RR.nil _, HB.out⟩
  · try rw [List.concat_eq_append] at hbr
    subst hbr
    have hlen : (b0 ++ [r]).length = b0.length + 1 := by simp
    obtain rfl : u = r.seq := by have := HU.out; simpa using this
    simp only [hlen] at HZ hnl ⊢
    clear hlen HU
    go_wp2_with (go_at_call 11; refine (sview_rr A c l _ HK.out).mono ?_; rintro e w2 ⟨B, d, rfl, hrr, hb2⟩; have HR := Lib.hid (hrr.take (mxI m 0).toNat); rw [← HT.out] at HR; have HB := Lib.hid hb2; have hcl := HZ.out B d hrr.cap; obtain ⟨y, rfl, c0, c1, c2, c3⟩ := rd_at HR.out.rd (i := b0.length) (r := r) (by simp); clear hrr hb2)
    have g0 : (0 : Int) ≤ b0.length := by omega
    have g1 : (b0.length : Int) < ((b0.length + 1 : Nat) : Int) := by omega
    have g2 : (b0.length : Int) < (b0.length : Int) + 1 := by omega
    have g3 : b0.length ≤ 1000 := by omega
    go_quiet (fail)
    go_wp2
    go_ret2
    exact ⟨_, _, rfl, HR.out.dn _, below_drewN HB.out _⟩
end Go.Proofs.Ytnmmhkggojnlpaa
