/- Balls that the certificate tells: what Holds and Apart say of them. -/
import Derived.Test.YtbgjcpnbdgljbaaGreatDoorMVro
import Derived.Test.YtbgjcpnbdgljbaaGreatDoorMUfg
import Derived.Maps.AppendAt
namespace Go.Proofs.YtbgjcpnbdgljbaaGreatDoor
open Go.RowKit Go.Fil

theorem apartR_comm (a b r c d q : Nat) : apartR a b r c d q = apartR c d q a b r := by
  unfold apartR
  congr 1
  have e1 : (fv r + fv q) * (fv r + fv q) = (fv q + fv r) * (fv q + fv r) := by grind
  have e2 : (fv a - fv c) * (fv a - fv c) + (fv b - fv d) * (fv b - fv d) = (fv c - fv a) * (fv c - fv a) + (fv d - fv b) * (fv d - fv b) := by grind
  rw [e1, e2]
theorem holdsR_le {a b r : Nat} {g h : Dya} (hr : r < 9218868437227405312) : holdsR a b r g h = true ↔ Le (qsub ⟨dv g, dv h⟩ (qof (a, b))) (rv r) := by
  unfold holdsR
  have e : fv r = rv r := nb_fv (Nat.le_of_lt hr)
  rw [e]
  simp only [Bool.not_eq_true', decide_eq_false_iff_not]
  constructor
  · intro h1
    exact ⟨rv_nonneg r, by show (dv g - fv a) * (dv g - fv a) + (dv h - fv b) * (dv h - fv b) ≤ rv r * rv r; exact Rat.not_lt.1 h1⟩
  · intro h1
    exact Rat.not_lt.2 h1.2
/-- Balls that hold one number are not apart. -/
theorem apart_not {a b r c d q : Nat} {g : Qi} (hr : r < 9218868437227405312) (hq : q < 9218868437227405312) (h1 : Le (qsub g (qof (a, b))) (rv r)) (h2 : Le (qsub g (qof (c, d))) (rv q)) : apartR a b r c d q = false := by
  have h3 := h1.swap.tri h2
  unfold apartR
  rw [nb_fv (Nat.le_of_lt hr), nb_fv (Nat.le_of_lt hq)]
  exact decide_eq_false (Rat.not_lt.2 h3.2)
end Go.Proofs.YtbgjcpnbdgljbaaGreatDoor

/- roots.All: its roots in memory, and what is kept of them. -/
namespace Go.Proofs.YtbgjcpnbdgljbaaGreatDoor
open Go.RowKit Go.Fil

/-- A root: its number, and the radius of its ball, where it is told. -/
structure Rt where
  z : Cc
  o : Option Nat
def rcell (R : Rt) : List Value := match R.o with
  | none => [.complex .f64 R.z.1 R.z.2, .bool false, .complex .f64 0 0, .float .f64 0]
  | some r => [.complex .f64 R.z.1 R.z.2, .bool true, .complex .f64 R.z.1 R.z.2, .float .f64 r]
def rcells (l : List Rt) : List Value := l.flatMap rcell
def toldB (l : List Rt) : List (Bl) := l.filterMap fun R => R.o.map fun r => (R.z.1, R.z.2, r)
theorem rcells_snoc (l : List Rt) (R : Rt) : rcells (l ++ [R]) = rcells l ++ rcell R := by simp [rcells]
theorem toldB_none (l : List Rt) (z : Cc) : toldB (l ++ [⟨z, none⟩]) = toldB l := by simp [toldB]
theorem toldB_some (l : List Rt) (z : Cc) (r : Nat) : toldB (l ++ [⟨z, some r⟩]) = toldB l ++ [(z.1, z.2, r)] := by simp [toldB]
theorem toldB_len (l : List Rt) : (toldB l).length ≤ l.length := List.length_filterMap_le _ _
theorem rcell_len (R : Rt) : (rcell R).length = 4 := by unfold rcell; split <;> rfl
/-- The certificate of a ball. -/
def BOk (ps : List Cc) (B : Bl) : Prop := FW (B.1, B.2.1) ∧ B.2.2 < 18446744073709551616 ∧ ∃ a b, a < 18446744073709551616 ∧ b < 18446744073709551616 ∧ certOk ps a b B.1 B.2.1 B.2.2 = true
def aparts (l : List (Bl)) (B : Bl) : Bool := l.all fun C => apartR B.1 B.2.1 B.2.2 C.1 C.2.1 C.2.2
/-- Balls that are apart, each from those ahead of it. -/
def Aps : List (Bl) → Prop := List.Pairwise fun C B => apartR B.1 B.2.1 B.2.2 C.1 C.2.1 C.2.2 = true
theorem Aps.snoc {l : List (Bl)} {B : Bl} (h : Aps l) (hB : aparts l B = true) : Aps (l ++ [B]) := by
  unfold Aps at *
  rw [List.pairwise_append]
  refine ⟨h, List.pairwise_singleton _ _, fun C hC D hD => ?_⟩
  rw [List.mem_singleton] at hD
  subst hD
  exact (List.all_eq_true.1 hB) C hC
/-- What is kept of the roots. -/
structure RsOk (ps : List Cc) (l : List Rt) : Prop where
  fw : ∀ R ∈ l, FW R.z
  ok : ∀ B ∈ toldB l, BOk ps B
  ap : Aps (toldB l)
theorem RsOk.nil (ps : List Cc) : RsOk ps [] := ⟨by simp, by simp [toldB], List.Pairwise.nil⟩
theorem RsOk.none {ps : List Cc} {l : List Rt} (h : RsOk ps l) {z : Cc} (hz : FW z) : RsOk ps (l ++ [⟨z, .none⟩]) := by
  refine ⟨fun R hR => ?_, by rw [toldB_none]; exact h.ok, by rw [toldB_none]; exact h.ap⟩
  rcases List.mem_append.1 hR with h1 | h1
  · exact h.fw R h1
  · rw [List.mem_singleton] at h1; subst h1; exact hz
theorem RsOk.told {ps : List Cc} {l : List Rt} (h : RsOk ps l) {z : Cc} {r : Nat} (hB : BOk ps (z.1, z.2, r)) (ha : aparts (toldB l) (z.1, z.2, r) = true) : RsOk ps (l ++ [⟨z, some r⟩]) := by
  refine ⟨fun R hR => ?_, fun B hb => ?_, by rw [toldB_some]; exact h.ap.snoc ha⟩
  · rcases List.mem_append.1 hR with h1 | h1
    · exact h.fw R h1
    · rw [List.mem_singleton] at h1; subst h1; exact hB.1
  · rw [toldB_some] at hb
    rcases List.mem_append.1 hb with h1 | h1
    · exact h.ok B h1
    · rw [List.mem_singleton] at h1; subst h1; exact hB
/-- What roots.All answers. -/
def RAl (ps : List Cc) (m : Nat) (w : World) (e : Ending) (w' : World) : Prop :=
  ∃ (v : Value) (rs : List Rt), e = .returned (.tuple #[v, .bool (decide ((toldB rs).length = m)), .int .i64 0]) ∧ rs.length = m ∧ RsOk ps rs ∧ w'.ownsRow w.heap.size 59 4 v m (rcells rs) ∧ Below w.heap.size w w'
theorem BOk.parts {ps : List Cc} {B : Bl} (h : BOk ps B) : isWholeS (B.1, B.2.1, B.2.2) = false ∧ fin B.1 = true ∧ fin B.2.1 = true ∧ B.2.2 < 9218868437227405312 ∧ fin B.2.2 = true ∧ 0 ≤ fv B.2.2 := by
  obtain ⟨hf, hr, a, b, _, _, hc⟩ := h
  unfold certOk at hc
  rw [Bool.and_eq_true] at hc
  have hb : finB B.2.2 = true := by
    have h2 := hc.2
    unfold contractsS at h2
    cases hb : finB B.2.2
    · rw [hb] at h2; simp at h2
    · rfl
  obtain ⟨h1, h2, h3, h4⟩ := may_parts hr hc.1 hb
  exact ⟨h1, h2, h3, h4, nb_fin h4, by rw [nb_fv (Nat.le_of_lt h4)]; exact rv_nonneg _⟩
end Go.Proofs.YtbgjcpnbdgljbaaGreatDoor

/- roots.Newton and ball.Apart in the form that roots.All wants. -/
namespace Go.Proofs.YtbgjcpnbdgljbaaGreatDoor
open Go.RowKit Go.Fil
attribute [local irreducible] fop fsqrt fup fabs fneg pick fmax

/-- What Newton answers: a finite number, or none. -/
def RNx (w : World) (e : Ending) (w' : World) : Prop := (∃ (c : Cc) (o : Bool), (o = true → FW c) ∧ e = .returned (.tuple #[.complex .f64 c.1 c.2, .bool o])) ∧ Below w.heap.size w w'
theorem newton_x (A : Option Addr) (n cap : Nat) (ps : List Cc) (hn : ps.length = n) (hm : n ≤ 9223372036854775807) (hp : 0 < n) (x y : Nat) (w : World) (hs : Seq w w.heap.size A (ps.map cv)) (hc : checkS ps = true) :
    Calls Tryz.prog 57 #[.slice A n cap, .complex .f64 x y] w (RNx w) := by
  refine (newton_any A n cap ps hn hm hp x y w hs hc).mono ?_
  rintro e w' ⟨rfl, hb⟩
  refine ⟨⟨(if newtonOk ps x y = true then (newtonZ ps x y).1 else 0, if newtonOk ps x y = true then (newtonZ ps x y).2 else 0), newtonOk ps x y, ?_, rfl⟩, hb⟩
  intro ho
  have h := ho
  unfold newtonOk at h
  rw [Bool.and_eq_true, Bool.and_eq_true] at h
  rw [if_pos ho, if_pos ho]
  exact ⟨h.2.2, fop_lt _ _ _, fop_lt _ _ _⟩
theorem apart_b {ps : List Cc} {B C : Bl} (hB : BOk ps B) (hC : BOk ps C) (w : World) (hT : Tab64 w) :
    Calls Tryz.prog 28 #[.agg #[.complex .f64 B.1 B.2.1, .float .f64 B.2.2], .agg #[.complex .f64 C.1 C.2.1, .float .f64 C.2.2]] w (RY (apartR B.1 B.2.1 B.2.2 C.1 C.2.1 C.2.2) w) := by
  obtain ⟨b1, b2, b3, b4, b5, b6⟩ := hB.parts
  obtain ⟨c1, c2, c3, c4, c5, c6⟩ := hC.parts
  exact apart_any _ _ _ _ _ _ b2 hB.1.2.1 b3 hB.1.2.2 b5 hB.2.1 c2 hC.1.2.1 c3 hC.1.2.2 c5 hC.2.1 b1 c1 (by grind) w hT
end Go.Proofs.YtbgjcpnbdgljbaaGreatDoor

/- roots.All. -/
namespace Go.Proofs.YtbgjcpnbdgljbaaGreatDoor
open Go.RowKit Go.Fil
attribute [local irreducible] fop fsqrt fup fabs fneg pick fmax

theorem Tryz.infoR : (Tryz.prog.info? 59).map (fun i => (i.zero, i.size, i.bytes)) = some (some (.agg #[.complex .f64 0 0, .bool false, .complex .f64 0 0, .float .f64 0]), 4, 48) := by kernel_rfl
theorem root_new (w : World) (a b c d : Value) (t : TypeId) : ∀ j u, [a, b, c, d][j]? = some u → (w.alloc (.cells #[a, b, c, d] t)).cell? ((⟨w.heap.size, 0, none⟩ : Addr).add j) = some u := by
  intro j u hj
  match j, hj with
  | 0, hj => simp at hj; subst hj; rw [show (⟨w.heap.size, 0, none⟩ : Addr).add 0 = ⟨w.heap.size, 0, none⟩ from rfl, World.cell?_alloc_at _ _ _ _ (by simp)]; rfl
  | 1, hj => simp at hj; subst hj; rw [show (⟨w.heap.size, 0, none⟩ : Addr).add 1 = ⟨w.heap.size, 1, none⟩ from rfl, World.cell?_alloc_at _ _ _ _ (by simp)]; rfl
  | 2, hj => simp at hj; subst hj; rw [show (⟨w.heap.size, 0, none⟩ : Addr).add 2 = ⟨w.heap.size, 2, none⟩ from rfl, World.cell?_alloc_at _ _ _ _ (by simp)]; rfl
  | 3, hj => simp at hj; subst hj; rw [show (⟨w.heap.size, 0, none⟩ : Addr).add 3 = ⟨w.heap.size, 3, none⟩ from rfl, World.cell?_alloc_at _ _ _ _ (by simp)]; rfl
  | j + 4, hj => simp at hj
theorem RCw.form {ps : List Cc} {c : Cc} {w w' : World} {e : Ending} (hf : FW c) (h : RCw ps c.1 c.2 w e w') :
    (∃ (B : Bl) (ok : Bool), (ok = true → (B.1 = c.1 ∧ B.2.1 = c.2) ∧ BOk ps B) ∧ e = .returned (.tuple #[.agg #[.complex .f64 B.1 B.2.1, .float .f64 B.2.2], .bool ok, .int .i64 0])) ∧ Below w.heap.size w w' := by
  obtain ⟨h1, hb⟩ := h
  refine ⟨?_, hb⟩
  rcases h1 with ⟨a, b, r, ha, hb', hr, hc, rfl⟩ | rfl
  · exact ⟨(c.1, c.2, r), true, fun _ => ⟨⟨rfl, rfl⟩, hf, hr, a, b, ha, hb', hc⟩, rfl⟩
  · exact ⟨(0, 0, 0), false, (fun h => by cases h), rfl⟩
/-- Two rows that lie apart. -/
theorem sep_swap {a b : Value} (h : a.ownBlock = none ∨ a.ownBlock ≠ b.ownBlock) : b.ownBlock = none ∨ b.ownBlock ≠ a.ownBlock := by
  rcases h with h | h
  · rw [h]
    cases hb : b.ownBlock
    · exact .inl rfl
    · exact .inr (by simp)
  · exact .inr (fun e => h e.symm)
theorem sep_next {w : World} {k base e size n : Nat} {xs : List Value} {a a' b : Value} (h : a.ownBlock = none ∨ a.ownBlock ≠ b.ownBlock) (hat : a'.ownBlock = a.ownBlock ∨ a'.ownBlock = some k) (hb : w.ownsRow base e size b n xs) (hk : w.heap.size ≤ k) : a'.ownBlock = none ∨ a'.ownBlock ≠ b.ownBlock := by
  rcases hat with e | e
  · rw [e]; exact h
  · rw [e]
    refine .inr fun he => ?_
    have := (hb.lt _ he.symm).2
    omega
section
variable (A : Option Addr) (m cap : Nat) (ps : List Cc) (hn : ps.length = m + 1) (hcap : m + 1 ≤ cap) (hm : m ≤ 16) (w : World) (hs : Seq w w.heap.size A (ps.map cv)) (hc : checkS ps = true) (hfz : ∀ k, k < m → FW (startZ (startR ps m) k)) (hT : Tab64 w)
include hn hcap hm hs hc hfz hT
set_option maxRecDepth 100000 in
set_option maxHeartbeats 6400000 in
theorem all_any : Calls Tryz.prog 25 #[.slice A (m + 1) cap] w (RAl ps m w) := by
  obtain ⟨i0, hi, hz0, hz1, hz2⟩ := info_parts Tryz.infoB
  obtain ⟨i4, hi4, hz40, hz41, hz42⟩ := info_parts Tryz.infoR
  have j0 : (0 : Int) ≤ (m : Int) := by omega
  have j1 : (m : Int) < 9223372036854775807 := by omega
  have HG := Lib.hid (guess_any A m cap ps hn hcap (by omega) w hs hc hfz)
  have HNW := Lib.hid (fun x y w hs => newton_x A (m + 1) cap ps hn (by omega) (by omega) x y w hs hc)
  have HCF := Lib.hid (fun x y w hs h1 hz => certify_any A (m + 1) cap ps hn (by omega) (by omega) x y w hs hc h1 hz)
  have HS := Lib.hid hs
  have HT := Lib.hid hT
  have HM := Lib.hid hm
  clear hn hcap hs hc hfz hT hm
  go_enter Tryz.func25, Tryz.ntmps25
  go_wp2_with (go_at_call 59; (with_reducible refine HG.out.mono ?_); rintro e w1 ⟨v, zs, rfl, hz, hf, hown, hb⟩; obtain ⟨A2, c2, rfl, hs2⟩ := seq_of_own hown)
  have HB1 := Lib.hid hb
  have HP := Lib.hid hs2
  have HZ := Lib.hid hz
  have HF := Lib.hid hf
  clear hown hb hs2 hz hf
  go_loopw [7, 8, 29] (fun u t i wr => ∃ (q : Nat) (v1 v2 : Value) (rs : List Rt), v1 = u ∧ v2 = t ∧ q ≤ m ∧ i = .int .i64 q ∧ rs.length = q ∧ RsOk ps rs ∧ wr.ownsRow w1.heap.size 59 4 v1 q (rcells rs) ∧ wr.ownsRow w1.heap.size 57 2 v2 (toldB rs).length (bcells (toldB rs)) ∧ (v1.ownBlock = none ∨ v1.ownBlock ≠ v2.ownBlock) ∧ Below w1.heap.size w1 wr) (fun _ _ i _ => m - (intOf i).toNat)
  case atStart => exact ⟨0, _, _, [], rfl, rfl, Nat.zero_le _, rfl, rfl, RsOk.nil ps, World.ownsRow_nil _ _ _ _, World.ownsRow_nil _ _ _ _, .inl rfl, Below.refl _ _⟩
  case round =>
    obtain ⟨q, v1, v2, rs, hv1, hv2, hq, rfl, hl, hrs, hown1, hown2, hsep, hbw⟩ := hrel
    subst hv1 hv2
    obtain ⟨A8, c8, rfl, hs8⟩ := seq_of_own2 hown2
    have HS8 := Lib.hid hs8
    clear hs8
    have HRS := Lib.hid hrs
    have HO1 := Lib.hid hown1
    have HO2 := Lib.hid hown2
    have HSEP := Lib.hid hsep
    have HBW := Lib.hid hbw
    have HL := Lib.hid hl
    clear hrs hown1 hown2 hsep hl
    by_cases hlq : q < m
    · obtain ⟨b, o, rfl, hb, hcl⟩ := (HP.out.below HBW.out (Nat.le_refl _)).cat (k := q) (by have := HZ.out; omega)
      have HFQ := Lib.hid (HF.out q (by have := HZ.out; omega))
      have HSR := Lib.hid ((HS.out.below (HB1.out.trans (HBW.out.mono HB1.out.size)) (Nat.le_refl _)).more (Nat.le_trans HB1.out.size HBW.out.size))
      go_wp2
      go_loopw [10, 33] (fun z k w2 => ∃ (j : Nat) (c : Cc), z = .complex .f64 c.1 c.2 ∧ FW c ∧ k = .int .i64 j ∧ j ≤ 3 ∧ Below wr.heap.size wr w2) (fun _ k _ => 3 - (intOf k).toNat)
      case atStart => exact ⟨0, nth zs q, rfl, HFQ.out, rfl, by omega, Below.refl _ _⟩
      case round =>
        rename World => w2
        obtain ⟨j, c, rfl, hfc, rfl, hj, hb2⟩ := hrel
        have HFC := Lib.hid hfc
        have HB2 := Lib.hid hb2
        have HN := Lib.hid (HNW.out c.1 c.2 w2 ((HSR.out.below hb2 (Nat.le_refl _)).more hb2.size))
        clear hfc hb2
        by_cases hj3 : j < 3
        · have k0 : (j : Int) < 3 := by omega
          go_wp2_with fail
          refine HN.out.mono ?_
          rintro e w3 ⟨⟨d, ok, hd, rfl⟩, hb3⟩
          have HD := Lib.hid hd
          clear hd
          cases ok
          · go_wp2
            go_roundw
            case rel => exact ⟨j + 1, c, rfl, HFC.out, by go_num, by omega, HB2.out.trans (hb3.mono HB2.out.size)⟩
            case measure => simp [intOf]; omega
          · have HFD := Lib.hid (HD.out rfl)
            go_wp2
            go_roundw
            case rel => exact ⟨j + 1, d, rfl, HFD.out, by go_num, by omega, HB2.out.trans (hb3.mono HB2.out.size)⟩
            case measure => simp [intOf]; omega
        · obtain rfl : j = 3 := by omega
          have HSC := Lib.hid ((HSR.out.below HB2.out (Nat.le_refl _)).more HB2.out.size)
          go_wp2_with fail
          refine (HCF.out c.1 c.2 _ ((HSC.out.alloc (Nat.le_refl _) _).more (by simp)) (by omega) HFC.out.1).mono ?_
          intro e w4 hcf
          obtain ⟨⟨B, ok, hB, rfl⟩, hb4⟩ := hcf.form HFC.out
          have HBO := Lib.hid hB
          have HB4 := Lib.hid hb4
          clear hB hcf
          obtain ⟨hc4, hf4⟩ := bcell hb4
          have z4 := hb4.size
          simp at z4
          have z2 := HB2.out.size
          have hw5 : Below wr.heap.size wr (w4.alloc (.cells #[.complex .f64 B.1 B.2.1, .float .f64 B.2.2] 57)) := by
            have h2 := HB2.out
            have h4 := HB4.out
            repeat (first | exact Below.refl _ _ | refine below_drewN ?_ _ | refine Below.alloc ?_ (by first | omega | (simp; omega) | simp) _ | refine Below.setCell ?_ (by first | omega | (simp; omega) | simp) _ | refine Below.trans ?_ (Below.mono (by assumption) (by first | omega | (simp; omega) | simp)) | apply Below.drew)
          have HW5 := Lib.hid hw5
          have s5 : (w4.alloc (.cells #[.complex .f64 B.1 B.2.1, .float .f64 B.2.2] 57)).heap.size = w4.heap.size + 1 := by simp
          have g0 : w2.heap.size < w4.heap.size := by omega
          have hroot : ∀ k v, #[Value.complex .f64 c.1 c.2, .bool false, .complex .f64 0 0, .float .f64 0][k]? = some v → w4.cell? ⟨w2.heap.size, k, none⟩ = some v ∧ w4.frozen? ⟨w2.heap.size, k, none⟩ = false := by
            intro k v hk
            rw [hc4 _ _ (by simp), hf4 _ _ (by simp), World.cell?_alloc_at _ _ _ _ rfl, World.frozen?_alloc_at _ _ _ _ rfl]
            exact ⟨hk, rfl⟩
          have HROOT := Lib.hid hroot
          have HLL := Lib.hid (Nat.le_trans (toldB_len rs) (show rs.length ≤ 16 by have := HL.out; have := HM.out; omega))
          clear hroot hw5 hc4 hf4 hb4
          go_wp2
          go_loopw [15, 55] (fun o k w6 => ∃ t : Nat, t ≤ (toldB rs).length ∧ k = .int .i64 t ∧ o = .bool (ok && aparts ((toldB rs).take t) B) ∧ Below (w4.heap.size + 1) (w4.alloc (.cells #[.complex .f64 B.1 B.2.1, .float .f64 B.2.2] 57)) w6) (fun _ k _ => (toldB rs).length - (intOf k).toNat)
          case atStart => exact ⟨0, Nat.zero_le _, rfl, by simp [aparts], Below.refl _ _⟩
          case round =>
            rename World => w6
            obtain ⟨t, ht, rfl, rfl, hb6⟩ := hrel
            have z6 := hb6.size
            rw [s5] at z6
            have hw6 : Below wr.heap.size wr w6 := HW5.out.trans (hb6.mono (by omega))
            have hw0 : Below w.heap.size w w6 := HB1.out.trans ((HBW.out.trans (hw6.mono HBW.out.size)).mono HB1.out.size)
            have HT6 := Lib.hid (tab64_below HT.out hw0)
            have b0 : w6.cell? ⟨w4.heap.size, 0, none⟩ = some (.complex .f64 B.1 B.2.1) := (hb6.cell (p := ⟨w4.heap.size, 0, none⟩) (by simp)).trans (by rw [World.cell?_alloc_at _ _ _ _ rfl]; rfl)
            have b1 : w6.cell? ⟨w4.heap.size, 1, none⟩ = some (.float .f64 B.2.2) := (hb6.cell (p := ⟨w4.heap.size, 1, none⟩) (by simp)).trans (by rw [World.cell?_alloc_at _ _ _ _ rfl]; rfl)
            have HW6 := Lib.hid hw6
            have HB6 := Lib.hid hb6
            clear hb6 hw6 hw0
            by_cases htl : t < (toldB rs).length
            · obtain ⟨b8, o8, rfl, hb8, hc80, hc81⟩ := (HS8.out.below HW6.out (Nat.le_refl _)).bat (k := t) htl
              have htk : aparts ((toldB rs).take (t + 1)) B = (aparts ((toldB rs).take t) B && apartR B.1 B.2.1 B.2.2 (nthB (toldB rs) t).1 (nthB (toldB rs) t).2.1 (nthB (toldB rs) t).2.2) := by
                unfold aparts
                rw [List.take_succ_eq_append_getElem htl, List.all_append, nthB_eq htl]
                simp
              have HBC := Lib.hid (HRS.out.ok (nthB (toldB rs) t) (by rw [nthB_eq htl]; exact List.getElem_mem htl))
              have tl0 : (t : Int) < ((toldB rs).length : Int) := by omega
              by_cases hoo : (ok && aparts ((toldB rs).take t) B) = true
              · have hok : ok = true := by rw [Bool.and_eq_true] at hoo; exact hoo.1
                have hap : aparts ((toldB rs).take t) B = true := by rw [Bool.and_eq_true] at hoo; exact hoo.2
                have HBB := Lib.hid (HBO.out hok).2
                rw [hap, Bool.true_and] at htk
                have HTK := Lib.hid htk
                rw [hoo]
                have HOK := Lib.hid hok
                clear htk hap hoo hok
                generalize nthB (toldB rs) t = C at *
                generalize hLn : (toldB rs).length = Ln at *
                have HLN := Lib.hid hLn
                clear hLn
                generalize (toldB rs) = tb at *
                have t0 : (0 : Int) ≤ (t : Int) := by omega
                have u7 : w4.heap.size + 1 ≤ w6.heap.size := z6
                have u6 : w4.heap.size < w6.heap.size := by omega
                have u8 : b8 < w6.heap.size := by have := HW6.out.size; omega
                have tl1 : (Ln : Int) ≤ 16 := by have := HLL.out; omega
                clear hcl hlq ht z6 z4 z2 hj3 hj s5 g0 hq hb hb8 hbw j0 j1
                go_wp2_with fail
                (with_reducible refine (apart_b HBB.out HBC.out _ (tab64_below HT6.out (alloc_below _ _))).mono ?_)
                rintro e w7 ⟨rfl, hb7⟩
                have HB7 := Lib.hid (HB6.out.trans (((alloc_below w6 _).trans (hb7.mono (by simp))).mono (by simpa using u7)))
                clear hb7
                go_wp2
                go_roundw
                case rel => exact ⟨t + 1, by omega, by go_num, by rw [HTK.out, HOK.out]; rfl, HB7.out⟩
                case measure => simp [intOf]; omega
              · have hoo' : (ok && aparts ((toldB rs).take t) B) = false := by simpa using hoo
                rw [hoo']
                have HTK := Lib.hid (show (ok && aparts ((toldB rs).take (t + 1)) B) = false by rw [htk, ← Bool.and_assoc, hoo', Bool.false_and])
                clear htk hoo hoo'
                generalize nthB (toldB rs) t = C at *
                generalize hLn : (toldB rs).length = Ln at *
                have HLN := Lib.hid hLn
                clear hLn
                generalize (toldB rs) = tb at *
                have t0 : (0 : Int) ≤ (t : Int) := by omega
                have u7 : w4.heap.size + 1 ≤ w6.heap.size := z6
                have u6 : w4.heap.size < w6.heap.size := by omega
                have u8 : b8 < w6.heap.size := by have := HW6.out.size; omega
                have tl1 : (Ln : Int) ≤ 16 := by have := HLL.out; omega
                clear hcl hlq ht z6 z4 z2 hj3 hj s5 g0 hq hb hb8 hbw j0 j1
                go_wp2
                go_roundw
                case rel => exact ⟨t + 1, by omega, by go_num, by rw [HTK.out], HB6.out.trans ((alloc_below w6 _).mono u7)⟩
                case measure => simp [intOf]; omega
            · obtain rfl : t = (toldB rs).length := by omega
              rw [List.take_length]
              have g6 : w2.heap.size < w6.heap.size := by omega
              have hr : ∀ k v, #[Value.complex .f64 c.1 c.2, .bool false, .complex .f64 0 0, .float .f64 0][k]? = some v → w6.cell? ⟨w2.heap.size, k, none⟩ = some v ∧ w6.frozen? ⟨w2.heap.size, k, none⟩ = false := fun k v hk => by
                rw [HB6.out.cell (p := ⟨w2.heap.size, k, none⟩) (by show w2.heap.size < _; omega), HB6.out.frozen (p := ⟨w2.heap.size, k, none⟩) (by show w2.heap.size < _; omega), (alloc_below w4 _).cell (p := ⟨w2.heap.size, k, none⟩) g0, (alloc_below w4 _).frozen (p := ⟨w2.heap.size, k, none⟩) g0]
                exact HROOT.out k v hk
              obtain ⟨r0, f0⟩ := hr 0 _ rfl
              obtain ⟨r1, f1⟩ := hr 1 _ rfl
              obtain ⟨r2, f2⟩ := hr 2 _ rfl
              obtain ⟨r3, f3⟩ := hr 3 _ rfl
              have HOA := Lib.hid (own_below HO1.out HW6.out)
              have HOB := Lib.hid (own_below HO2.out HW6.out)
              clear hr ht htl
              by_cases hoo : (ok && aparts (toldB rs) B) = true
              · have HOK := Lib.hid ((Bool.and_eq_true _ _).mp hoo)
                have HCB := Lib.hid (HBO.out HOK.out.1)
                rw [hoo]
                clear hoo
                have u6 : w4.heap.size < w6.heap.size := by omega
                have u9 : w2.heap.size ≠ w4.heap.size := by omega
                clear hcl z6 z4 z2 hj3 hj s5 g0 hq hb hbw
                go_wp2
                go_region
                obtain ⟨w7, e7⟩ : ∃ w7, (((w6.setCell ⟨w2.heap.size, 1, none⟩ (.bool true)).setCell ⟨w2.heap.size, 2, none⟩ (.complex .f64 B.1 B.2.1)).setCell ⟨w2.heap.size, 3, none⟩ (.float .f64 B.2.2)).drew = w7 := ⟨_, rfl⟩
                rw [e7]
                have zz := HBW.out.size
                have zy := HW6.out.size
                have zx := HB2.out.size
                have s7 : w7.heap.size = w6.heap.size := by rw [← e7]; simp
                have k0 : w7.cell? ⟨w2.heap.size, 0, none⟩ = some (.complex .f64 c.1 c.2) := by rw [← e7]; simp [go_sem, r0]
                have k1 : w7.cell? ⟨w2.heap.size, 1, none⟩ = some (.bool true) := by rw [← e7]; simp [go_sem, r1]
                have k2 : w7.cell? ⟨w2.heap.size, 2, none⟩ = some (.complex .f64 B.1 B.2.1) := by rw [← e7]; simp [go_sem, r2]
                have k3 : w7.cell? ⟨w2.heap.size, 3, none⟩ = some (.float .f64 B.2.2) := by rw [← e7]; simp [go_sem, r3]
                have c0 : w7.cell? ⟨w4.heap.size, 0, none⟩ = some (.complex .f64 B.1 B.2.1) := by rw [← e7]; simp [go_sem, b0]
                have c1 : w7.cell? ⟨w4.heap.size, 1, none⟩ = some (.float .f64 B.2.2) := by rw [← e7]; simp [go_sem, b1]
                have HW7 := Lib.hid (show Below wr.heap.size wr w7 by rw [← e7]; exact (((HW6.out.setCell (by show wr.heap.size ≤ w2.heap.size; omega) _).setCell (by show wr.heap.size ≤ w2.heap.size; omega) _).setCell (by show wr.heap.size ≤ w2.heap.size; omega) _).drew)
                have HOA7 := Lib.hid (own_below HO1.out HW7.out)
                have HOB7 := Lib.hid (own_below HO2.out HW7.out)
                have z7 : w6.heap.size ≤ w7.heap.size := by omega
                clear e7 r0 r1 r2 r3 f0 f1 f2 f3 b0 b1 HOA HOB s7
                go_wp2_with (at_builtin; refine wpList_append_own_at _ rfl _ _ 108 rfl w1.heap.size 57 i0 (.agg #[.complex .f64 0 0, .float .f64 0]) 2 24 Tryz.underlying108 hi hz0 hz1 hz2 rfl (by decide) _ _ _ rfl (HOB7.out.alloc _) ⟨w7.heap.size, 0, none⟩ 1 1 [.complex .f64 B.1 B.2.1, .float .f64 B.2.2] rfl rfl ?c1 ?c2 ?c3 ?c4 ?c5 ?_)
                case c1 => exact ball_new w7 B _
                case c2 => intro u hu; simp at hu; rcases hu with rfl | rfl <;> rfl
                case c3 => have := HLL.out; unfold maxLen; omega
                case c4 => have := HLL.out; omega
                case c5 => simp; omega
                intro v2 w8 hown2 hgrow2 _ hat2
                have hne : ∀ k, (Value.slice A8 (toldB rs).length c8).ownBlock = some k → k < wr.heap.size := fun k hk => (HO2.out.lt k hk).2
                have hbl : w8.heap[w2.heap.size]? = w7.heap[w2.heap.size]? := by
                  rw [hgrow2.block w2.heap.size (by simp; omega) (fun e => by have := hne _ e.symm; omega)]
                  exact (alloc_below w7 _).block w2.heap.size (by omega)
                have hk8 : ∀ j, w8.cell? ⟨w2.heap.size, j, none⟩ = w7.cell? ⟨w2.heap.size, j, none⟩ := fun j => World.cell?_of_block (a := ⟨w2.heap.size, j, none⟩) hbl
                have k0' := (hk8 0).trans k0
                have k1' := (hk8 1).trans k1
                have k2' := (hk8 2).trans k2
                have k3' := (hk8 3).trans k3
                have z8 : w7.heap.size + 1 ≤ w8.heap.size := by have := hgrow2.size; simpa using this
                have HA8 := Lib.hid ((HOA7.out.alloc (.cells #[.complex .f64 B.1 B.2.1, .float .f64 B.2.2] 57)).kept hgrow2 HSEP.out)
                have HB8 := Lib.hid hown2
                have HW8 := Lib.hid (show Below w1.heap.size w1 w8 from ((HBW.out.trans (HW7.out.mono HBW.out.size)).alloc (by omega) _).grown hgrow2 (by simp; omega) (fun k hk => (HO2.out.lt k hk).1))
                have HSEP8 := Lib.hid (sep_swap (sep_next (sep_swap HSEP.out) hat2 HOA7.out (by omega)))
                clear hown2 hgrow2 hat2 hne hbl hk8 k0 k1 k2 k3 c0 c1
                go_wp2_with (at_builtin; refine wpList_append_own_at _ rfl _ _ 52 rfl w1.heap.size 59 i4 (.agg #[.complex .f64 0 0, .bool false, .complex .f64 0 0, .float .f64 0]) 4 48 Tryz.underlying52 hi4 hz40 hz41 hz42 rfl (by decide) _ _ _ rfl (HA8.out.alloc _) ⟨w8.heap.size, 0, none⟩ 1 1 [.complex .f64 c.1 c.2, .bool true, .complex .f64 B.1 B.2.1, .float .f64 B.2.2] rfl rfl ?c1 ?c2 ?c3 ?c4 ?c5 ?_)
                case c1 => exact root_new w8 _ _ _ _ _
                case c2 => intro u hu; simp at hu; rcases hu with rfl | rfl | rfl | rfl <;> rfl
                case c3 => unfold maxLen; omega
                case c4 => have := HM.out; omega
                case c5 => simp; omega
                intro v' w9 hown' hgrow _ hat
                have hw9 : Below w1.heap.size w1 w9 := (HW8.out.alloc (by omega) _).grown hgrow (by simp; omega) (fun k hk => (HA8.out.lt k hk).1)
                have hk2 := (HB8.out.alloc (.cells #[.complex .f64 c.1 c.2, .bool true, .complex .f64 B.1 B.2.1, .float .f64 B.2.2] 59)).kept hgrow (sep_swap HSEP8.out)
                have hs9 := sep_next HSEP8.out hat HB8.out (by omega)
                obtain ⟨⟨hB1, hB2⟩, hBk⟩ := HCB.out
                have hown9 : w9.ownsRow w1.heap.size 59 4 v' (q + 1) (rcells (rs ++ [⟨c, some B.2.2⟩])) := by rw [rcells_snoc]; rw [hB1, hB2] at hown'; exact hown'
                have htold : toldB (rs ++ [⟨c, some B.2.2⟩]) = toldB rs ++ [B] := by rw [toldB_some, ← hB1, ← hB2]
                have hrs9 : RsOk ps (rs ++ [⟨c, some B.2.2⟩]) := HRS.out.told (by rw [← hB1, ← hB2]; exact hBk) (by rw [← hB1, ← hB2]; exact HOK.out.2)
                clear hown' hgrow hat hB1 hB2 hBk
                go_wp2
                go_roundw
                case rel => exact ⟨q + 1, v', v2, rs ++ [⟨c, some B.2.2⟩], rfl, rfl, by omega, by go_num, by rw [List.length_append, HL.out]; rfl, hrs9, hown9, by rw [htold, bcells_append, List.length_append]; exact hk2, hs9, hw9⟩
                case measure => simp [intOf]; omega
              · have hoo' : (ok && aparts (toldB rs) B) = false := by simpa using hoo
                rw [hoo']
                clear hoo hoo'
                go_wp2_with (at_builtin; refine wpList_append_own_at _ rfl _ _ 52 rfl w1.heap.size 59 i4 (.agg #[.complex .f64 0 0, .bool false, .complex .f64 0 0, .float .f64 0]) 4 48 Tryz.underlying52 hi4 hz40 hz41 hz42 rfl (by decide) _ _ _ rfl (HOA.out.alloc _) ⟨w6.heap.size, 0, none⟩ 1 1 (rcell ⟨c, none⟩) rfl rfl ?c1 ?c2 ?c3 ?c4 ?c5 ?_)
                case c1 => exact root_new w6 _ _ _ _ _
                case c2 => intro u hu; simp [rcell] at hu; rcases hu with rfl | rfl | rfl | rfl <;> rfl
                case c3 => unfold maxLen; omega
                case c4 => have := HM.out; omega
                case c5 => have := HBW.out.size; have := HW6.out.size; simp; omega
                intro v' w8 hown' hgrow _ hat
                have hw8 : Below w1.heap.size w1 w8 := ((HBW.out.trans (HW6.out.mono HBW.out.size)).alloc (by have := HBW.out.size; have := HW6.out.size; omega) _).grown hgrow (by have := HBW.out.size; have := HW6.out.size; simp; omega) (fun k hk => (HO1.out.lt k hk).1)
                have hk2 := (HOB.out.alloc (.cells #[.complex .f64 c.1 c.2, .bool false, .complex .f64 0 0, .float .f64 0] 59)).kept hgrow (sep_swap HSEP.out)
                have hs8 := sep_next HSEP.out hat HOB.out (by omega)
                have hown8 : w8.ownsRow w1.heap.size 59 4 v' (q + 1) (rcells (rs ++ [⟨c, none⟩])) := by rw [rcells_snoc]; exact hown'
                clear hown' hgrow hat
                go_wp2
                go_roundw
                case rel => exact ⟨q + 1, v', _, rs ++ [⟨c, none⟩], rfl, rfl, by omega, by go_num, by rw [List.length_append, HL.out]; rfl, HRS.out.none HFC.out, hown8, by rw [toldB_none]; exact hk2, hs8, hw8⟩
                case measure => simp [intOf]; omega
    · obtain rfl : q = m := by omega
      have jw : IntKind.i64.wrap ((q : Int) + 1 - 1) = (q : Int) := by rw [show (q : Int) + 1 - 1 = q by omega]; exact IntWalk.i64_in _ (by omega)
      have hdec : ((((toldB rs).length : Nat) : Int) == (q : Int)) = decide ((toldB rs).length = q) := by
        by_cases h : (toldB rs).length = q
        · rw [decide_eq_true h, h]; simp
        · rw [decide_eq_false h, beq_eq_false_iff_ne]; omega
      go_wp2
      exact bodyPost_ret (v := .tuple #[v1, .bool (decide ((toldB rs).length = q)), .int .i64 0]) (by simp [results, Tryz.results25, go_sem]) rfl ⟨v1, rs, rfl, HL.out, HRS.out, own_base HO1.out HB1.out.size, HB1.out.trans (HBW.out.mono HB1.out.size)⟩
end
end Go.Proofs.YtbgjcpnbdgljbaaGreatDoor
