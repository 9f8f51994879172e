/- ball.far: is the square of a distance above the square of a radius? -/
import Derived.Test.YtbgjcpnbdgljbaaGreatDoorMUab
namespace Go.Proofs.YtbgjcpnbdgljbaaGreatDoor
open Go.RowKit Go.Fil Go.Shelf
attribute [local irreducible] fop fsqrt fup fabs fneg pick

/-- The number. -/
def nv (m e : Int) : Rat := (m : Rat) * p2 e
theorem nv_pos {m e : Int} : 0 < nv m e ↔ 0 < m := by
  unfold nv
  have hp := p2_pos e
  constructor
  · intro h
    refine Int.not_le.1 fun hm => ?_
    have h1 : (m : Rat) ≤ 0 := by exact_mod_cast hm
    have := Rat.mul_le_mul_of_nonneg_right h1 (Rat.le_of_lt hp)
    grind
  · intro h
    have h1 : (0 : Rat) < (m : Rat) := by exact_mod_cast h
    exact Rat.mul_pos h1 hp
theorem sign_lt (z : Int) : (z.sign < 0) ↔ z < 0 := by
  constructor
  · intro h; exact Int.sign_neg_iff.1 h
  · intro h; exact Int.sign_neg_iff.2 h
theorem sign_gt (z : Int) : (0 < z.sign) ↔ 0 < z := by
  constructor
  · intro h; exact Int.sign_pos_iff.1 h
  · intro h; exact Int.sign_pos_iff.2 h
theorem nb_new {wj wk : World} {u v : Value} (hb : Below (wj.alloc (.cells #[u, v] 113)).heap.size (wj.alloc (.cells #[u, v] 113)) wk) : NBlk wk wj.heap.size ∧ wj.heap.size < wk.heap.size := by
  have h := hb.size
  simp at h
  exact ⟨(NBlk.new wj u v).below hb (by simp), by omega⟩
theorem nb_newd {wj wk : World} {u v : Value} (hb : Below (wj.alloc (.cells #[u, v] 113)).drew.heap.size (wj.alloc (.cells #[u, v] 113)).drew wk) : NBlk wk wj.heap.size ∧ wj.heap.size < wk.heap.size := by
  have h := hb.size
  simp at h
  have h0 : NBlk (wj.alloc (.cells #[u, v] 113)).drew wj.heap.size := NBlk.new wj u v
  exact ⟨h0.below hb (by simp), by omega⟩
theorem nb_next {w w' : World} {b : Nat} (h : NBlk w b ∧ b < w.heap.size) (hb : Below w.heap.size w w') : NBlk w' b ∧ b < w'.heap.size := ⟨h.1.below hb h.2, Nat.lt_of_lt_of_le h.2 hb.size⟩
section
variable (gx gy gr : Nat) (mx my mr ex ey er : Int) (K : Nat) (hK : K ≤ 50000) (hx : Sz mx ex K) (hy : Sz my ey K) (hr : Sz mr er K) (w : World) (hzx : IntAt w gx mx) (hzy : IntAt w gy my) (hzr : IntAt w gr mr)
include hK hx hy hr hzx hzy hzr
omit hx hy hzx hzy in
set_option maxRecDepth 100000 in
set_option maxHeartbeats 1600000 in
theorem far_neg (h0 : mr < 0) : Calls Tryz.prog 61 #[.agg #[.pointer (some ⟨gx, 0, none⟩), .int .i64 ex], .agg #[.pointer (some ⟨gy, 0, none⟩), .int .i64 ey], .agg #[.pointer (some ⟨gr, 0, none⟩), .int .i64 er]] w fun e w' => e = .returned (.bool true) ∧ Below w.heap.size w w' := by
  have hb3 : Below w.heap.size w (((w.alloc (.cells #[.pointer (some ⟨gx, 0, none⟩), .int .i64 ex] 113)).alloc (.cells #[.pointer (some ⟨gy, 0, none⟩), .int .i64 ey] 113)).alloc (.cells #[.pointer (some ⟨gr, 0, none⟩), .int .i64 er] 113)) := by repeat (first | exact Below.refl _ _ | refine below_drewN ?_ _ | refine Below.alloc ?_ (by first | omega | (simp; omega) | simp) _ | refine Below.setCell ?_ (by first | omega | (simp; omega) | simp) _ | refine Below.trans ?_ (Below.mono (by assumption) (by first | omega | (simp; omega) | simp)) | apply Below.drew)
  have HS := Lib.hid (fun w hz => isign_any gr mr (Nat.le_trans (dig_len_lim hr.b) (by omega)) w hz)
  have HZ := Lib.hid (hzr.below hb3)
  have hsn := (sign_lt mr).2 h0
  clear hr hzr hK h0
  go_enter Tryz.func61, Tryz.ntmps61
  go_wp2_with (first
    | (go_at_call 121; refine (HS.out _ HZ.out).mono ?_; rintro e w' ⟨rfl, rfl⟩))
  go_ret
  exact ⟨rfl, by repeat (first | exact Below.refl _ _ | refine below_drewN ?_ _ | refine Below.alloc ?_ (by first | omega | (simp; omega) | simp) _ | refine Below.setCell ?_ (by first | omega | (simp; omega) | simp) _ | refine Below.trans ?_ (Below.mono (by assumption) (by first | omega | (simp; omega) | simp)) | apply Below.drew)⟩
set_option maxRecDepth 100000 in
set_option maxHeartbeats 12800000 in
theorem far_pos (h0 : 0 ≤ mr) : Calls Tryz.prog 61 #[.agg #[.pointer (some ⟨gx, 0, none⟩), .int .i64 ex], .agg #[.pointer (some ⟨gy, 0, none⟩), .int .i64 ey], .agg #[.pointer (some ⟨gr, 0, none⟩), .int .i64 er]] w fun e w' => e = .returned (.bool (decide (nv mr er * nv mr er < nv mx ex * nv mx ex + nv my ey * nv my ey))) ∧ Below w.heap.size w w' := by
  have hb3 : Below w.heap.size w (((w.alloc (.cells #[.pointer (some ⟨gx, 0, none⟩), .int .i64 ex] 113)).alloc (.cells #[.pointer (some ⟨gy, 0, none⟩), .int .i64 ey] 113)).alloc (.cells #[.pointer (some ⟨gr, 0, none⟩), .int .i64 er] 113)) := by repeat (first | exact Below.refl _ _ | refine below_drewN ?_ _ | refine Below.alloc ?_ (by first | omega | (simp; omega) | simp) _ | refine Below.setCell ?_ (by first | omega | (simp; omega) | simp) _ | refine Below.trans ?_ (Below.mono (by assumption) (by first | omega | (simp; omega) | simp)) | apply Below.drew)
  have HS := Lib.hid (fun w hz => isign_any gr mr (Nat.le_trans (dig_len_lim hr.b) (by omega)) w hz)
  have HTX := Lib.hid (fun w hz => ntimes_any gx gx mx mx ex ex K (by omega) hx hx w hz hz)
  have HTY := Lib.hid (fun w hz => ntimes_any gy gy my my ey ey K (by omega) hy hy w hz hz)
  have HTR := Lib.hid (fun w hz => ntimes_any gr gr mr mr er er K (by omega) hr hr w hz hz)
  have HPL := Lib.hid (fun g1 g2 m1 m2 e1 e2 s1 s2 w hz1 hz2 => nplus_any g1 g2 m1 m2 e1 e2 (2 * K) (by omega) s1 s2 w hz1 hz2)
  have HLS := Lib.hid (fun g1 g2 m1 m2 e1 e2 s1 s2 w hz1 hz2 => nless_any g1 g2 m1 m2 e1 e2 (3 * (2 * K) + 1) (by omega) s1 s2 w hz1 hz2)
  have HSG := Lib.hid (fun g m (e : Int) (s : Sz m e (3 * (3 * (2 * K) + 1) + 1)) w hz => isign_any g m (Nat.le_trans (dig_len_lim s.b) (by omega)) w hz)
  have HKK := Lib.hid hK
  have hsn : ¬ mr < 0 := by omega
  obtain ⟨w3, hw3⟩ : ∃ w3, w3 = (((w.alloc (.cells #[.pointer (some ⟨gx, 0, none⟩), .int .i64 ex] 113)).alloc (.cells #[.pointer (some ⟨gy, 0, none⟩), .int .i64 ey] 113)).alloc (.cells #[.pointer (some ⟨gr, 0, none⟩), .int .i64 er] 113)) := ⟨_, rfl⟩
  have HB3 := Lib.hid hb3
  have HZX := Lib.hid (hzx.below hb3)
  have HZY := Lib.hid (hzy.below hb3)
  have HZR := Lib.hid (hzr.below hb3)
  clear hx hy hr hzx hzy hzr h0 hb3 hK
  go_enter Tryz.func61, Tryz.ntmps61
  go_wp2_with (first
    | (go_at_call 121; refine (HS.out _ HZR.out).mono ?_; rintro e w' ⟨rfl, rfl⟩))
  have a0 : w3.cell? ⟨w.heap.size, 0, none⟩ = some (.pointer (some ⟨gx, 0, none⟩)) := by rw [hw3]; simp [go_sem]
  have a1 : w3.cell? ⟨w.heap.size, 1, none⟩ = some (.int .i64 ex) := by rw [hw3]; simp [go_sem]
  have a2 : w3.cell? ⟨w.heap.size + 1, 0, none⟩ = some (.pointer (some ⟨gy, 0, none⟩)) := by rw [hw3]; simp [go_sem]
  have a3 : w3.cell? ⟨w.heap.size + 1, 1, none⟩ = some (.int .i64 ey) := by rw [hw3]; simp [go_sem]
  have a4 : w3.cell? ⟨w.heap.size + 1 + 1, 0, none⟩ = some (.pointer (some ⟨gr, 0, none⟩)) := by rw [hw3]; simp [go_sem]
  have a5 : w3.cell? ⟨w.heap.size + 1 + 1, 1, none⟩ = some (.int .i64 er) := by rw [hw3]; simp [go_sem]
  have hs3 : w3.heap.size = w.heap.size + 1 + 1 + 1 := by rw [hw3]; simp
  rw [← hw3] at HB3 HZX HZY HZR ⊢
  have l0 : w.heap.size < w3.heap.size := by omega
  have l1 : w.heap.size + 1 < w3.heap.size := by omega
  have l2 : w.heap.size + 1 + 1 < w3.heap.size := by omega
  clear hw3 hs3
  go_region_held3 (fun x => x.cell? ⟨w.heap.size, 0, none⟩ = some (.pointer (some ⟨gx, 0, none⟩)) ∧ x.cell? ⟨w.heap.size, 1, none⟩ = some (.int .i64 ex) ∧ x.cell? ⟨w.heap.size + 1, 0, none⟩ = some (.pointer (some ⟨gy, 0, none⟩)) ∧ x.cell? ⟨w.heap.size + 1, 1, none⟩ = some (.int .i64 ey) ∧ x.cell? ⟨w.heap.size + 1 + 1, 0, none⟩ = some (.pointer (some ⟨gr, 0, none⟩)) ∧ x.cell? ⟨w.heap.size + 1 + 1, 1, none⟩ = some (.int .i64 er))
    (refine ⟨?_, ?_, ?_, ?_, ?_, ?_⟩ <;> first
      | with_reducible assumption
      | (simp [go_sem, World.cell?_alloc_past, *]; done))
    (first
      | (go_at_call 122; (with_reducible refine (HTX.out _ (HZX.out.below (by repeat (first | exact Below.refl _ _ | refine below_drewN ?_ _ | refine Below.alloc ?_ (by first | omega | (simp; omega) | simp) _ | refine Below.setCell ?_ (by first | omega | (simp; omega) | simp) _ | refine Below.trans ?_ (Below.mono (by assumption) (by first | omega | (simp; omega) | simp)) | apply Below.drew)))).mono ?_); rintro e w4 ⟨g4, m4, e4, rfl, hz4, hv4, hs4, hb4⟩; have HZ4 := Lib.hid hz4; have HV4 := Lib.hid hv4; have HS4 := Lib.hid hs4; have hbb4 : Below w3.heap.size w3 w4 := (by repeat (first | exact Below.refl _ _ | refine below_drewN ?_ _ | refine Below.alloc ?_ (by first | omega | (simp; omega) | simp) _ | refine Below.setCell ?_ (by first | omega | (simp; omega) | simp) _ | refine Below.trans ?_ (Below.mono (by assumption) (by first | omega | (simp; omega) | simp)) | apply Below.drew)); have zz4 := hbb4.size; have zy4 := hb4.size; (try simp at zy4); (first | (have NB := nb_new hb4) | (have NB := nb_newd hb4) | (have NB := nb_next NB hb4) | skip); have y40 : w.heap.size < w4.heap.size := (by omega); have y41 : w.heap.size + 1 < w4.heap.size := (by omega); have y42 : w.heap.size + 1 + 1 < w4.heap.size := (by omega); have p40 := (hbb4.cell (p := ⟨w.heap.size, 0, none⟩) l0).trans a0; have p41 := (hbb4.cell (p := ⟨w.heap.size, 1, none⟩) l0).trans a1; have p42 := (hbb4.cell (p := ⟨w.heap.size + 1, 0, none⟩) l1).trans a2; have p43 := (hbb4.cell (p := ⟨w.heap.size + 1, 1, none⟩) l1).trans a3; have p44 := (hbb4.cell (p := ⟨w.heap.size + 1 + 1, 0, none⟩) l2).trans a4; have p45 := (hbb4.cell (p := ⟨w.heap.size + 1 + 1, 1, none⟩) l2).trans a5; have HB4 := Lib.hid hbb4; have n40 : w.heap.size ≠ w4.heap.size := (by omega); have n41 : w.heap.size + 1 ≠ w4.heap.size := (by omega); have n42 : w.heap.size + 1 + 1 ≠ w4.heap.size := (by omega); clear hz4 hv4 hs4 hbb4)
      | (go_at_call 122; (with_reducible refine (HTY.out _ (HZY.out.below (by repeat (first | exact Below.refl _ _ | refine below_drewN ?_ _ | refine Below.alloc ?_ (by first | omega | (simp; omega) | simp) _ | refine Below.setCell ?_ (by first | omega | (simp; omega) | simp) _ | refine Below.trans ?_ (Below.mono (by assumption) (by first | omega | (simp; omega) | simp)) | apply Below.drew)))).mono ?_); rintro e w5 ⟨g5, m5, e5, rfl, hz5, hv5, hs5, hb5⟩; have HZ5 := Lib.hid hz5; have HV5 := Lib.hid hv5; have HS5 := Lib.hid hs5; have hbb5 : Below w3.heap.size w3 w5 := (by repeat (first | exact Below.refl _ _ | refine below_drewN ?_ _ | refine Below.alloc ?_ (by first | omega | (simp; omega) | simp) _ | refine Below.setCell ?_ (by first | omega | (simp; omega) | simp) _ | refine Below.trans ?_ (Below.mono (by assumption) (by first | omega | (simp; omega) | simp)) | apply Below.drew)); have zz5 := hbb5.size; have zy5 := hb5.size; (try simp at zy5); (first | (have NB := nb_new hb5) | (have NB := nb_newd hb5) | (have NB := nb_next NB hb5) | skip); have y50 : w.heap.size < w5.heap.size := (by omega); have y51 : w.heap.size + 1 < w5.heap.size := (by omega); have y52 : w.heap.size + 1 + 1 < w5.heap.size := (by omega); have p50 := (hbb5.cell (p := ⟨w.heap.size, 0, none⟩) l0).trans a0; have p51 := (hbb5.cell (p := ⟨w.heap.size, 1, none⟩) l0).trans a1; have p52 := (hbb5.cell (p := ⟨w.heap.size + 1, 0, none⟩) l1).trans a2; have p53 := (hbb5.cell (p := ⟨w.heap.size + 1, 1, none⟩) l1).trans a3; have p54 := (hbb5.cell (p := ⟨w.heap.size + 1 + 1, 0, none⟩) l2).trans a4; have p55 := (hbb5.cell (p := ⟨w.heap.size + 1 + 1, 1, none⟩) l2).trans a5; have HB5 := Lib.hid hbb5; have n50 : w.heap.size ≠ w5.heap.size := (by omega); have n51 : w.heap.size + 1 ≠ w5.heap.size := (by omega); have n52 : w.heap.size + 1 + 1 ≠ w5.heap.size := (by omega); clear hz5 hv5 hs5 hbb5)
      | (go_at_call 122; (with_reducible refine (HTR.out _ (HZR.out.below (by repeat (first | exact Below.refl _ _ | refine below_drewN ?_ _ | refine Below.alloc ?_ (by first | omega | (simp; omega) | simp) _ | refine Below.setCell ?_ (by first | omega | (simp; omega) | simp) _ | refine Below.trans ?_ (Below.mono (by assumption) (by first | omega | (simp; omega) | simp)) | apply Below.drew)))).mono ?_); rintro e w7 ⟨g7, m7, e7, rfl, hz7, hv7, hs7, hb7⟩; have HZ7 := Lib.hid hz7; have HV7 := Lib.hid hv7; have HS7 := Lib.hid hs7; have hbb7 : Below w3.heap.size w3 w7 := (by repeat (first | exact Below.refl _ _ | refine below_drewN ?_ _ | refine Below.alloc ?_ (by first | omega | (simp; omega) | simp) _ | refine Below.setCell ?_ (by first | omega | (simp; omega) | simp) _ | refine Below.trans ?_ (Below.mono (by assumption) (by first | omega | (simp; omega) | simp)) | apply Below.drew)); have zz7 := hbb7.size; have zy7 := hb7.size; (try simp at zy7); (first | (have NB := nb_new hb7) | (have NB := nb_newd hb7) | (have NB := nb_next NB hb7) | skip); have y70 : w.heap.size < w7.heap.size := (by omega); have y71 : w.heap.size + 1 < w7.heap.size := (by omega); have y72 : w.heap.size + 1 + 1 < w7.heap.size := (by omega); have p70 := (hbb7.cell (p := ⟨w.heap.size, 0, none⟩) l0).trans a0; have p71 := (hbb7.cell (p := ⟨w.heap.size, 1, none⟩) l0).trans a1; have p72 := (hbb7.cell (p := ⟨w.heap.size + 1, 0, none⟩) l1).trans a2; have p73 := (hbb7.cell (p := ⟨w.heap.size + 1, 1, none⟩) l1).trans a3; have p74 := (hbb7.cell (p := ⟨w.heap.size + 1 + 1, 0, none⟩) l2).trans a4; have p75 := (hbb7.cell (p := ⟨w.heap.size + 1 + 1, 1, none⟩) l2).trans a5; have HB7 := Lib.hid hbb7; have n70 : w.heap.size ≠ w7.heap.size := (by omega); have n71 : w.heap.size + 1 ≠ w7.heap.size := (by omega); have n72 : w.heap.size + 1 + 1 ≠ w7.heap.size := (by omega); clear hz7 hv7 hs7 hbb7)
      | (go_at_call 65; (with_reducible refine (HPL.out _ _ _ _ _ _ HS4.out HS5.out _ (HZ4.out.below (by repeat (first | exact Below.refl _ _ | refine below_drewN ?_ _ | refine Below.alloc ?_ (by first | omega | (simp; omega) | simp) _ | refine Below.setCell ?_ (by first | omega | (simp; omega) | simp) _ | refine Below.trans ?_ (Below.mono (by assumption) (by first | omega | (simp; omega) | simp)) | apply Below.drew))) (HZ5.out.below (by repeat (first | exact Below.refl _ _ | refine below_drewN ?_ _ | refine Below.alloc ?_ (by first | omega | (simp; omega) | simp) _ | refine Below.setCell ?_ (by first | omega | (simp; omega) | simp) _ | refine Below.trans ?_ (Below.mono (by assumption) (by first | omega | (simp; omega) | simp)) | apply Below.drew)))).mono ?_); rintro e w6 ⟨g6, m6, e6, rfl, hz6, hv6, hs6, hb6⟩; have HZ6 := Lib.hid hz6; have HV6 := Lib.hid hv6; have HS6 := Lib.hid hs6; have hbb6 : Below w3.heap.size w3 w6 := (by repeat (first | exact Below.refl _ _ | refine below_drewN ?_ _ | refine Below.alloc ?_ (by first | omega | (simp; omega) | simp) _ | refine Below.setCell ?_ (by first | omega | (simp; omega) | simp) _ | refine Below.trans ?_ (Below.mono (by assumption) (by first | omega | (simp; omega) | simp)) | apply Below.drew)); have zz6 := hbb6.size; have zy6 := hb6.size; (try simp at zy6); (first | (have NB := nb_new hb6) | (have NB := nb_newd hb6) | (have NB := nb_next NB hb6) | skip); have y60 : w.heap.size < w6.heap.size := (by omega); have y61 : w.heap.size + 1 < w6.heap.size := (by omega); have y62 : w.heap.size + 1 + 1 < w6.heap.size := (by omega); have p60 := (hbb6.cell (p := ⟨w.heap.size, 0, none⟩) l0).trans a0; have p61 := (hbb6.cell (p := ⟨w.heap.size, 1, none⟩) l0).trans a1; have p62 := (hbb6.cell (p := ⟨w.heap.size + 1, 0, none⟩) l1).trans a2; have p63 := (hbb6.cell (p := ⟨w.heap.size + 1, 1, none⟩) l1).trans a3; have p64 := (hbb6.cell (p := ⟨w.heap.size + 1 + 1, 0, none⟩) l2).trans a4; have p65 := (hbb6.cell (p := ⟨w.heap.size + 1 + 1, 1, none⟩) l2).trans a5; have HB6 := Lib.hid hbb6; have n60 : w.heap.size ≠ w6.heap.size := (by omega); have n61 : w.heap.size + 1 ≠ w6.heap.size := (by omega); have n62 : w.heap.size + 1 + 1 ≠ w6.heap.size := (by omega); clear hz6 hv6 hs6 hbb6)
      | (go_at_call 63; (with_reducible refine (HLS.out _ _ _ _ _ _ HS6.out (HS7.out.mono (by omega)) _ (HZ6.out.below (by repeat (first | exact Below.refl _ _ | refine below_drewN ?_ _ | refine Below.alloc ?_ (by first | omega | (simp; omega) | simp) _ | refine Below.setCell ?_ (by first | omega | (simp; omega) | simp) _ | refine Below.trans ?_ (Below.mono (by assumption) (by first | omega | (simp; omega) | simp)) | apply Below.drew))) (HZ7.out.below (by repeat (first | exact Below.refl _ _ | refine below_drewN ?_ _ | refine Below.alloc ?_ (by first | omega | (simp; omega) | simp) _ | refine Below.setCell ?_ (by first | omega | (simp; omega) | simp) _ | refine Below.trans ?_ (Below.mono (by assumption) (by first | omega | (simp; omega) | simp)) | apply Below.drew)))).mono ?_); rintro e w8 ⟨g8, m8, e8, rfl, hz8, hv8, hs8, hb8⟩; have HZ8 := Lib.hid hz8; have HV8 := Lib.hid hv8; have HS8 := Lib.hid hs8; have hbb8 : Below w3.heap.size w3 w8 := (by repeat (first | exact Below.refl _ _ | refine below_drewN ?_ _ | refine Below.alloc ?_ (by first | omega | (simp; omega) | simp) _ | refine Below.setCell ?_ (by first | omega | (simp; omega) | simp) _ | refine Below.trans ?_ (Below.mono (by assumption) (by first | omega | (simp; omega) | simp)) | apply Below.drew)); have zz8 := hbb8.size; have zy8 := hb8.size; (try simp at zy8); (first | (have NB := nb_new hb8) | (have NB := nb_newd hb8) | (have NB := nb_next NB hb8) | skip); have y80 : w.heap.size < w8.heap.size := (by omega); have y81 : w.heap.size + 1 < w8.heap.size := (by omega); have y82 : w.heap.size + 1 + 1 < w8.heap.size := (by omega); have p80 := (hbb8.cell (p := ⟨w.heap.size, 0, none⟩) l0).trans a0; have p81 := (hbb8.cell (p := ⟨w.heap.size, 1, none⟩) l0).trans a1; have p82 := (hbb8.cell (p := ⟨w.heap.size + 1, 0, none⟩) l1).trans a2; have p83 := (hbb8.cell (p := ⟨w.heap.size + 1, 1, none⟩) l1).trans a3; have p84 := (hbb8.cell (p := ⟨w.heap.size + 1 + 1, 0, none⟩) l2).trans a4; have p85 := (hbb8.cell (p := ⟨w.heap.size + 1 + 1, 1, none⟩) l2).trans a5; have HB8 := Lib.hid hbb8; have n80 : w.heap.size ≠ w8.heap.size := (by omega); have n81 : w.heap.size + 1 ≠ w8.heap.size := (by omega); have n82 : w.heap.size + 1 + 1 ≠ w8.heap.size := (by omega); clear hz8 hv8 hs8 hbb8; (first | (obtain ⟨⟨ru, r0⟩, ⟨rv, r1⟩, rf⟩ := NB.1.cells; have rf0 := rf 0; have rf1 := rf 1; clear rf) | skip)))
  all_goals
    have hdec : decide (0 < m8) = decide (nv mr er * nv mr er < nv mx ex * nv mx ex + nv my ey * nv my ey) := by
      have h := HV8.out
      rw [HV6.out, HV7.out, HV4.out, HV5.out] at h
      have h1 := nv_pos (m := m8) (e := e8)
      unfold nv at h1 ⊢
      rw [h] at h1
      exact decide_eq_decide.2 (h1.symm.trans (by grind))
    have HD := Lib.hid hdec
    clear hdec
    go_wp2_with (first
      | (go_at_call 121; refine (HSG.out g8 m8 e8 HS8.out _ (by first | exact (HZ8.out.store NB.1 0 _).store (NB.1.set 0 _ (by decide)) 1 _ | exact HZ8.out.below (by repeat (first | exact Below.refl _ _ | refine below_drewN ?_ _ | refine Below.alloc ?_ (by first | omega | (simp; omega) | simp) _ | refine Below.setCell ?_ (by first | omega | (simp; omega) | simp) _ | refine Below.trans ?_ (Below.mono (by assumption) (by first | omega | (simp; omega) | simp)) | apply Below.drew)) | exact ((HZ8.out.below (by repeat (first | exact Below.refl _ _ | refine below_drewN ?_ _ | refine Below.alloc ?_ (by first | omega | (simp; omega) | simp) _ | refine Below.setCell ?_ (by first | omega | (simp; omega) | simp) _ | refine Below.trans ?_ (Below.mono (by assumption) (by first | omega | (simp; omega) | simp)) | apply Below.drew))).store (NBlk.new _ _ _) 0 _).store ((NBlk.new _ _ _).set 0 _ (by decide)) 1 _)).mono ?_; rintro e w' ⟨rfl, rfl⟩))
    go_ret
    exact ⟨by rw [← HD.out]; simp, by repeat (first | exact Below.refl _ _ | refine below_drewN ?_ _ | refine Below.alloc ?_ (by first | omega | (simp; omega) | simp) _ | refine Below.setCell ?_ (by first | omega | (simp; omega) | simp) _ | refine Below.trans ?_ (Below.mono (by assumption) (by first | omega | (simp; omega) | simp)) | apply Below.drew)⟩
end
end Go.Proofs.YtbgjcpnbdgljbaaGreatDoor

/- ball.exact, ball.exactly. -/
namespace Go.Proofs.YtbgjcpnbdgljbaaGreatDoor
open Go.RowKit Go.Fil Go.Shelf
attribute [local irreducible] fop fsqrt fup fabs fneg pick

theorem tab64_below {w w' : World} (h : Tab64 w) (hb : Below w.heap.size w w') : Tab64 w' := fun j hj => (hb.cell (World.block_lt_of_cell? w _ (h j hj))).trans (h j hj)
theorem exact_sz {neg : Bool} {m : Nat} {E : Int} (hm : m < 9007199254740992) (h1 : -1074 ≤ E) (h2 : E ≤ 1100) : Sz (sg neg m) E 1100 := by
  have hb : bl m ≤ 53 := bl_le_of_lt (by simpa using hm)
  refine ⟨?_, by omega, by omega⟩
  unfold sg
  cases neg <;> simp <;> omega
set_option maxRecDepth 100000 in
set_option maxHeartbeats 3200000 in
theorem bexact_any (x : Nat) (hx : x < 18446744073709551616) (hf : fin x = true) (w : World) (hT : Tab64 w) : Calls Tryz.prog 64 #[.float .f64 x] w (RNm (fv x) 1100 w) := by
  have HT := Lib.hid (tab64_below hT (alloc_below w (.cells #[.pointer none, .int .i64 0] 113)))
  have HX := Lib.hid hx
  have HF := Lib.hid hf
  have HBW := Lib.hid (alloc_below w (.cells #[.pointer none, .int .i64 0] 113))
  have HNB := Lib.hid (NBlk.new w (.pointer none) (.int .i64 0))
  clear hx hf hT
  go_enter Tryz.func64, Tryz.ntmps64
  go_wp2_with fail
  refine (parts_any x HX.out HF.out _ HT.out).mono ?_
  rintro e w' ⟨neg, m, E, k, rfl, hv, hm, he1, he2, rfl⟩
  have HV := Lib.hid hv
  have HM := Lib.hid hm
  have HSZ := Lib.hid (exact_sz (neg := neg) hm he1 he2)
  clear hv hm he1 he2
  have hnb : NBlk (((w.alloc (.cells #[.pointer none, .int .i64 0] 113)).drewN k).alloc (.cells #[.bool false, .slice none 0 0] 183)) w.heap.size := HNB.out.below (w := (w.alloc (.cells #[.pointer none, .int .i64 0] 113))) (w' := _) (B := w.heap.size + 1) ((below_drewN (Below.refl _ _) k).alloc (by simp) _) (by omega)
  have hblk : IntBlk (((w.alloc (.cells #[.pointer none, .int .i64 0] 113)).drewN k).alloc (.cells #[.bool false, .slice none 0 0] 183)) (w.heap.size + 1) := by
    have := blk_fresh ((w.alloc (.cells #[.pointer none, .int .i64 0] 113)).drewN k)
    simpa using this
  have hbw : Below w.heap.size w (((w.alloc (.cells #[.pointer none, .int .i64 0] 113)).drewN k).alloc (.cells #[.bool false, .slice none 0 0] 183)) := by repeat (first | exact Below.refl _ _ | refine below_drewN ?_ _ | refine Below.alloc ?_ (by first | omega | (simp; omega) | simp) _ | refine Below.setCell ?_ (by first | omega | (simp; omega) | simp) _ | refine Below.trans ?_ (Below.mono (by assumption) (by first | omega | (simp; omega) | simp)) | apply Below.drew)
  have HBL := Lib.hid hblk
  have HNB2 := Lib.hid hnb
  have HBW2 := Lib.hid hbw
  clear hnb hblk hbw
  go_wp2_with fail
  refine (isetu_any _ m (by have := HM.out; omega) _ HBL.out).mono ?_
  rintro e w2 ⟨rfl, hi, hg⟩
  have HI := Lib.hid hi
  have HB2 := Lib.hid (grown_below HBW2.out hg (by omega))
  have hnb2 := HNB2.out.grown hg (by omega)
  have HNB3 := Lib.hid hnb2
  obtain ⟨⟨ru, r0⟩, ⟨rv, r1⟩, rf⟩ := hnb2.cells
  have rf0 := rf 0
  have rf1 := rf 1
  clear hi hg hnb2 rf
  cases neg
  · go_wp2
    exact bodyPost_ret (v := .agg #[.pointer (some ⟨w.heap.size + 1, 0, none⟩), .int .i64 E]) (by simp [results, Tryz.results64, go_sem, r0, r1]) rfl (rnm_of ((HI.out.store HNB3.out 0 _).store (HNB3.out.set 0 _ (by decide)) 1 _) HV.out HSZ.out ((HB2.out.setCell (Nat.le_refl _) _).setCell (Nat.le_refl _) _))
  · go_wp2_with fail
    refine (ineg_any _ _ _ (by have := HSZ.out.b; simp [sg] at this ⊢; omega) _ HI.out.blk HI.out).mono ?_
    rintro e w3 ⟨rfl, hi, hg⟩
    have HI3 := Lib.hid hi
    have HB3 := Lib.hid (grown_below HB2.out hg (by omega))
    have hnb2 := HNB3.out.grown hg (by omega)
    have HNB4 := Lib.hid hnb2
    obtain ⟨⟨ru', r0'⟩, ⟨rv', r1'⟩, rf'⟩ := hnb2.cells
    have rf0' := rf' 0
    have rf1' := rf' 1
    clear hi hg hnb2 rf'
    go_wp2
    exact bodyPost_ret (v := .agg #[.pointer (some ⟨w.heap.size + 1, 0, none⟩), .int .i64 E]) (by simp [results, Tryz.results64, go_sem, r0', r1']) rfl (rnm_of ((HI3.out.store HNB4.out 0 _).store (HNB4.out.set 0 _ (by decide)) 1 _) HV.out HSZ.out ((HB3.out.setCell (Nat.le_refl _) _).setCell (Nat.le_refl _) _))
set_option maxRecDepth 100000 in
set_option maxHeartbeats 3200000 in
theorem exactly_any (neg : Bool) (n : Nat) (x : Int) (K : Nat) (hK : K ≤ 1000000) (hs : Sz (sg neg n) x K) (w : World) :
    Calls Tryz.prog 62 #[.agg #[.bool neg, .string (natS n), .int .i64 x]] w (RNm (((sg neg n : Int) : Rat) * p2 x) K w) := by
  have hbn : bl n ≤ K := by have := hs.b; unfold sg at this; cases neg <;> simpa using this
  have HSZ := Lib.hid hs
  have hn : bl n ≤ 137438953472 := by omega
  obtain ⟨cap, w1, hrun, hseq, hbe, hsz⟩ := conv_bytes (((w.alloc (.cells #[.bool neg, .string (natS n), .int .i64 x] 29)).alloc (.cells #[.pointer none, .int .i64 0] 113)).alloc (.cells #[.bool false, .slice none 0 0] 183)) (bbs n) (bbs_ok n)
  rw [show bstr (bbs n) = natS n from rfl] at hrun
  have hlen : (bbs n).length ≤ 68719476736 := by rw [bbs_length]; omega
  have hb0 : Below w.heap.size w (((w.alloc (.cells #[.bool neg, .string (natS n), .int .i64 x] 29)).alloc (.cells #[.pointer none, .int .i64 0] 113)).alloc (.cells #[.bool false, .slice none 0 0] 183)) := by repeat (first | exact Below.refl _ _ | refine below_drewN ?_ _ | refine Below.alloc ?_ (by first | omega | (simp; omega) | simp) _ | refine Below.setCell ?_ (by first | omega | (simp; omega) | simp) _ | refine Below.trans ?_ (Below.mono (by assumption) (by first | omega | (simp; omega) | simp)) | apply Below.drew)
  have esz : (((w.alloc (.cells #[.bool neg, .string (natS n), .int .i64 x] 29)).alloc (.cells #[.pointer none, .int .i64 0] 113)).alloc (.cells #[.bool false, .slice none 0 0] 183)).heap.size = w.heap.size + 1 + 1 + 1 := by simp
  have hb1 : Below w.heap.size w w1 := hb0.trans (hbe.mono (by simp; omega))
  have hc0 : w1.cell? ⟨w.heap.size, 0, none⟩ = some (.bool neg) := by
    rw [hbe.cell (p := ⟨w.heap.size, 0, none⟩) (by simp; omega)]; simp [go_sem]
  have hc2 : w1.cell? ⟨w.heap.size, 2, none⟩ = some (.int .i64 x) := by
    rw [hbe.cell (p := ⟨w.heap.size, 2, none⟩) (by simp; omega)]; simp [go_sem]
  have hblk : IntBlk w1 (w.heap.size + 1 + 1) := by
    have h0 : IntBlk (((w.alloc (.cells #[.bool neg, .string (natS n), .int .i64 x] 29)).alloc (.cells #[.pointer none, .int .i64 0] 113)).alloc (.cells #[.bool false, .slice none 0 0] 183)) (w.heap.size + 1 + 1) := by
      have := blk_fresh ((w.alloc (.cells #[.bool neg, .string (natS n), .int .i64 x] 29)).alloc (.cells #[.pointer none, .int .i64 0] 113))
      simpa using this
    exact h0.below hbe
  have hnb : NBlk w1 (w.heap.size + 1) := by
    have h0 := NBlk.new (w.alloc (.cells #[.bool neg, .string (natS n), .int .i64 x] 29)) (.pointer none) (.int .i64 0)
    have h1 := h0.below (alloc_below _ (.cells #[.bool false, .slice none 0 0] 183)) (by simp)
    simp only [heap_size_alloc'] at h1
    exact h1.below hbe (by simp)
  have hw1 : w.heap.size < w1.heap.size := by simp at hsz; omega
  rw [esz] at hseq hrun
  clear esz
  have HSEQ := Lib.hid hseq
  have HB1 := Lib.hid hb1
  have HBLK := Lib.hid hblk
  have HNB := Lib.hid hnb
  have HN := Lib.hid hn
  clear hseq hb1 hblk hbe hsz hnb hb0 hs hbn hK
  cases neg
  · go_enter Tryz.func62, Tryz.ntmps62
    go_wp2_with fail
    refine (isetb_any _ _ _ _ (bbs n) rfl hlen (bbs_ok n) _ HBLK.out HSEQ.out).mono ?_
    rintro e w2 ⟨rfl, hi, hg⟩
    have hc3 : w2.cell? ⟨w.heap.size, 0, none⟩ = some (.bool false) := by
      rw [World.cell?_of_block (w := w1) (a := ⟨w.heap.size, 0, none⟩) (hg.block w.heap.size hw1 (by simp <;> omega))]
      exact hc0
    have hc4 : w2.cell? ⟨w.heap.size, 2, none⟩ = some (.int .i64 x) := by
      rw [World.cell?_of_block (w := w1) (a := ⟨w.heap.size, 2, none⟩) (hg.block w.heap.size hw1 (by simp <;> omega))]
      exact hc2
    rw [bbs_val] at hi
    have HI := Lib.hid hi
    have HB2 := Lib.hid (grown_below HB1.out hg (by omega))
    have hnb2 := HNB.out.grown hg (by omega)
    have HNB2 := Lib.hid hnb2
    obtain ⟨⟨ru, r0⟩, ⟨rv, r1⟩, rf⟩ := hnb2.cells
    have rf0 := rf 0
    have rf1 := rf 1
    clear hi hg hnb2 rf
    go_wp2
    exact bodyPost_ret (v := .agg #[.pointer (some ⟨w.heap.size + 1 + 1, 0, none⟩), .int .i64 x]) (by simp [results, Tryz.results62, go_sem, r0, r1]) rfl (rnm_of ((HI.out.store HNB2.out 0 _).store (HNB2.out.set 0 _ (by decide)) 1 _) rfl HSZ.out ((HB2.out.setCell (by show w.heap.size ≤ w.heap.size + 1; omega) _).setCell (by show w.heap.size ≤ w.heap.size + 1; omega) _))
  · go_enter Tryz.func62, Tryz.ntmps62
    go_wp2_with fail
    refine (isetb_any _ _ _ _ (bbs n) rfl hlen (bbs_ok n) _ HBLK.out HSEQ.out).mono ?_
    rintro e w2 ⟨rfl, hi, hg⟩
    have hc3 : w2.cell? ⟨w.heap.size, 0, none⟩ = some (.bool true) := by
      rw [World.cell?_of_block (w := w1) (a := ⟨w.heap.size, 0, none⟩) (hg.block w.heap.size hw1 (by simp <;> omega))]
      exact hc0
    have hc4 : w2.cell? ⟨w.heap.size, 2, none⟩ = some (.int .i64 x) := by
      rw [World.cell?_of_block (w := w1) (a := ⟨w.heap.size, 2, none⟩) (hg.block w.heap.size hw1 (by simp <;> omega))]
      exact hc2
    rw [bbs_val] at hi
    have HI := Lib.hid hi
    have HB2 := Lib.hid (grown_below HB1.out hg (by omega))
    have hnb2 := HNB.out.grown hg (by omega)
    have HNB2 := Lib.hid hnb2
    obtain ⟨⟨ru, r0⟩, ⟨rv, r1⟩, rf⟩ := hnb2.cells
    have rf0 := rf 0
    have rf1 := rf 1
    clear hi hg hnb2 rf
    go_wp2_with fail
    refine (ineg_any _ _ _ (by rw [Int.natAbs_natCast]; exact HN.out) _ HI.out.blk HI.out).mono ?_
    rintro e w3 ⟨rfl, hi, hg⟩
    have hc5 : w3.cell? ⟨w.heap.size, 2, none⟩ = some (.int .i64 x) := by
      rw [World.cell?_of_block (w := w2) (a := ⟨w.heap.size, 2, none⟩) (hg.block w.heap.size (World.block_lt_of_cell? w2 _ hc4) (by simp <;> omega))]
      exact hc4
    have HI3 := Lib.hid hi
    have HB3 := Lib.hid (grown_below HB2.out hg (by omega))
    have hnb2 := HNB2.out.grown hg (by omega)
    have HNB3 := Lib.hid hnb2
    obtain ⟨⟨ru', r0'⟩, ⟨rv', r1'⟩, rf'⟩ := hnb2.cells
    have rf0' := rf' 0
    have rf1' := rf' 1
    clear hi hg hnb2 rf'
    go_wp2
    exact bodyPost_ret (v := .agg #[.pointer (some ⟨w.heap.size + 1 + 1, 0, none⟩), .int .i64 x]) (by simp [results, Tryz.results62, go_sem, r0', r1']) rfl (rnm_of ((HI3.out.store HNB3.out 0 _).store (HNB3.out.set 0 _ (by decide)) 1 _) rfl HSZ.out ((HB3.out.setCell (by show w.heap.size ≤ w.heap.size + 1; omega) _).setCell (by show w.heap.size ≤ w.heap.size + 1; omega) _))
end Go.Proofs.YtbgjcpnbdgljbaaGreatDoor
