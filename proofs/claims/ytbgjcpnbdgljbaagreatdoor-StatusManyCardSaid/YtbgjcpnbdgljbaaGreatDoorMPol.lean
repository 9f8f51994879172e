/- The contracts of package poly by floats, at this translation. -/
import Derived.Test.YtbgjcpnbdgljbaaGreatDoorMBal
import Derived.Test.YtbgjcpnbdgljbaaGreatDoorMSeq
import Derived.LoopTactic
import Derived.Deep.LoopGhost
import Derived.Lib.Hide
import Derived.Deep.Light
import Derived.OwnWalk
import Derived.Laws.OwnMore
import Derived.Deep.AppendLies
import Derived.Maps.AppendAt
namespace Go.Proofs.YtbgjcpnbdgljbaaGreatDoor
open Go.RowKit Go.Fil
attribute [local irreducible] fop fsqrt fup fabs fneg pick

/-- A slice's array holds these cells, one behind the other, in a block below B; of no cells nothing is said. -/
def Seq (w : World) (B : Nat) (A : Option Addr) (xs : List Value) : Prop :=
  xs = [] ∨ ∃ b o, A = some ⟨b, o, none⟩ ∧ b < B ∧ ∀ k v, xs[k]? = some v → w.cell? ⟨b, o + k, none⟩ = some v
theorem Seq.keep {w w' : World} {B : Nat} {A : Option Addr} {xs : List Value} (h : Seq w B A xs) (hk : ∀ b o, b < B → w'.cell? ⟨b, o, none⟩ = w.cell? ⟨b, o, none⟩) : Seq w' B A xs := by
  rcases h with h | ⟨b, o, hA, hb, hc⟩
  · exact .inl h
  · exact .inr ⟨b, o, hA, hb, fun k v hv => (hk _ _ hb).trans (hc k v hv)⟩
theorem Seq.below {w w' : World} {B B' : Nat} {A : Option Addr} {xs : List Value} (h : Seq w B A xs) (hb : Below B' w w') (hB : B ≤ B') : Seq w' B A xs :=
  h.keep fun b o hlt => hb.cell (p := ⟨b, o, none⟩) (Nat.lt_of_lt_of_le hlt hB)
theorem Seq.more {w : World} {B B' : Nat} {A : Option Addr} {xs : List Value} (h : Seq w B A xs) (hB : B ≤ B') : Seq w B' A xs := by
  rcases h with h | ⟨b, o, hA, hb, hc⟩
  · exact .inl h
  · exact .inr ⟨b, o, hA, Nat.lt_of_lt_of_le hb hB, hc⟩
theorem Seq.drewN {w : World} {B : Nat} {A : Option Addr} {xs : List Value} (h : Seq w B A xs) (n : Nat) : Seq (w.drewN n) B A xs := h
theorem Seq.alloc {w : World} {B : Nat} {A : Option Addr} {xs : List Value} (h : Seq w B A xs) (hB : B ≤ w.heap.size) (o : Obj) : Seq (w.alloc o) B A xs :=
  h.below ((Below.refl B w).alloc hB o) (Nat.le_refl _)
/-- A complex number as a value. -/
def cv (c : Cc) : Value := .complex .f64 c.1 c.2
theorem Seq.cat {w : World} {B : Nat} {A : Option Addr} {ps : List Cc} (h : Seq w B A (ps.map cv)) {k : Nat} (hk : k < ps.length) :
    ∃ b o, A = some ⟨b, o, none⟩ ∧ b < B ∧ w.cell? ⟨b, o + k, none⟩ = some (.complex .f64 (nth ps k).1 (nth ps k).2) := by
  rcases h with h | ⟨b, o, hA, hb, hc⟩
  · have : ps = [] := by simpa using h
    subst this; simp at hk
  · exact ⟨b, o, hA, hb, hc k _ (by simp [List.getElem?_map, List.getElem?_eq_getElem hk, cv, nth_eq hk])⟩
/-- The same where the address is known. -/
theorem Seq.cell {w : World} {B b o : Nat} {ps : List Cc} (h : Seq w B (some ⟨b, o, none⟩) (ps.map cv)) {k : Nat} (hk : k < ps.length) :
    w.cell? ⟨b, o + k, none⟩ = some (.complex .f64 (nth ps k).1 (nth ps k).2) := by
  obtain ⟨b', o', hA, _, hc⟩ := h.cat hk
  injection hA with hA
  injection hA with h1 h2
  subst h1; subst h2
  exact hc

theorem pzero_any (a b : Nat) (w : World) : Calls Tryz.prog 87 #[.complex .f64 a b] w fun e w' => e = .returned (.bool (czero a b)) ∧ w = w' := by
  go_enter Tryz.func87, Tryz.ntmps87
  go_wp2
  go_ret
  exact ⟨rfl, rfl⟩
theorem pfinite_any (a b : Nat) (w : World) : Calls Tryz.prog 52 #[.complex .f64 a b] w fun e w' => e = .returned (.bool (cfin a b)) ∧ w = w' := by
  cases hc : cfin a b
  · go_enter Tryz.func52, Tryz.ntmps52
    go_wp2_with (go_at_call 100; refine (kind_not hc _).mono ?_; rintro e w' ⟨k, hk, rfl, rfl⟩)
    go_ret
    exact ⟨rfl, rfl⟩
  · go_enter Tryz.func52, Tryz.ntmps52
    go_wp2_with (go_at_call 100; refine (kind_fin hc _).mono ?_; rintro e w' ⟨rfl, rfl⟩)
    go_ret
    exact ⟨rfl, rfl⟩
/-- poly.Check of a list that is not empty, nor too long, its last coefficient not 0. -/
theorem check_some (A : Option Addr) (n cap : Nat) (ps : List Cc) (hn : ps.length = n + 1) (hle : n + 1 ≤ 17) (B : Nat) (w : World) (hs : Seq w B A (ps.map cv)) (hz : czero (nth ps n).1 (nth ps n).2 = false) :
    Calls Tryz.prog 82 #[.slice A (n + 1) cap] w fun e w' => e = .returned (.int .i64 (errS (allfin ps))) ∧ w = w' := by
  obtain ⟨b, o, rfl, hb, hcl⟩ := hs.cat (k := n) (by omega)
  have HN := Lib.hid hn
  have HS := Lib.hid hs
  clear hn hs hb
  go_enter Tryz.func82, Tryz.ntmps82
  go_wp2_with (first
    | (go_at_call 87; refine (pzero_any _ _ _).mono ?_; rintro e w' ⟨rfl, rfl⟩))
  clear hcl hz
  go_loop [24] (fun i => ∃ k : Nat, k ≤ n + 1 ∧ i = .int .i64 k ∧ FinTo ps k) (fun i => n + 1 - (intOf i).toNat)
  case atStart => exact ⟨0, by omega, rfl, FinTo.zero ps⟩
  case round =>
    obtain ⟨k, hk, rfl, hfin⟩ := hrel
    by_cases hlt : k < n + 1
    · have hcl := HS.out.cell (k := k) (by have := HN.out; omega)
      cases hf : cfin (nth ps k).1 (nth ps k).2
      · go_wp2_with (first
          | (go_at_call 52; refine (pfinite_any _ _ _).mono ?_; rintro e w' ⟨rfl, rfl⟩))
        go_ret
        exact ⟨by rw [allfin_not (by have := HN.out; omega) hf]; rfl, rfl⟩
      · go_wp2_with (first
          | (go_at_call 52; refine (pfinite_any _ _ _).mono ?_; rintro e w' ⟨rfl, rfl⟩))
        go_round
        case rel => exact ⟨k + 1, by omega, by go_num, hfin.next hf⟩
        case measure => simp [intOf]; omega
    · have hk' : k = n + 1 := by omega
      subst hk'
      go_wp2
      go_ret
      exact ⟨by rw [hfin.all HN.out]; rfl, rfl⟩
theorem check_nil (A : Option Addr) (cap : Nat) (w : World) :
    Calls Tryz.prog 82 #[.slice A 0 cap] w fun e w' => e = .returned (.int .i64 0) ∧ w = w' := by
  go_enter Tryz.func82, Tryz.ntmps82
  go_wp2
  refine wp_loop_rounds 1 ?_
  rw [rounds_succ]
  go_wp2
  go_ret
  exact ⟨rfl, rfl⟩
theorem check_long (A : Option Addr) (n cap : Nat) (hn : 17 < n) (hm : n ≤ 9223372036854775807) (w : World) :
    Calls Tryz.prog 82 #[.slice A n cap] w fun e w' => e = .returned (.int .i64 2) ∧ w = w' := by
  go_enter Tryz.func82, Tryz.ntmps82
  go_wp2
  go_ret
  exact ⟨rfl, rfl⟩
theorem check_zero (A : Option Addr) (n cap : Nat) (ps : List Cc) (hn : ps.length = n + 1) (hle : n + 1 ≤ 17) (B : Nat) (w : World) (hs : Seq w B A (ps.map cv)) (hz : czero (nth ps n).1 (nth ps n).2 = true) :
    Calls Tryz.prog 82 #[.slice A (n + 1) cap] w fun e w' => e = .returned (.int .i64 2) ∧ w = w' := by
  obtain ⟨b, o, rfl, hb, hcl⟩ := hs.cat (k := n) (by omega)
  clear hn hs hb
  go_enter Tryz.func82, Tryz.ntmps82
  go_wp2_with (first
    | (go_at_call 87; refine (pzero_any _ _ _).mono ?_; rintro e w' ⟨rfl, rfl⟩))
  go_ret
  exact ⟨rfl, rfl⟩
/-- poly.Check, of any coefficients. -/
theorem check_any (A : Option Addr) (n cap : Nat) (ps : List Cc) (hn : ps.length = n) (hm : n ≤ 9223372036854775807) (B : Nat) (w : World) (hs : Seq w B A (ps.map cv)) :
    Calls Tryz.prog 82 #[.slice A n cap] w fun e w' => e = .returned (.int .i64 (errS (checkS ps))) ∧ w = w' := by
  cases n with
  | zero =>
    have h0 : ps = [] := List.eq_nil_of_length_eq_zero hn
    subst h0
    exact check_nil A cap w
  | succ n =>
    by_cases hle : n + 1 ≤ 17
    · cases hz : czero (nth ps n).1 (nth ps n).2
      · have e1 : checkS ps = allfin ps := by
          unfold checkS lastzero czeroC
          rw [hn, Nat.add_sub_cancel, hz]; simp; omega
        rw [e1]
        exact check_some A n cap ps hn hle B w hs hz
      · have e1 : checkS ps = false := by
          unfold checkS lastzero czeroC
          rw [hn, Nat.add_sub_cancel, hz]; simp
        rw [e1]
        exact check_zero A n cap ps hn hle B w hs hz
    · have e1 : checkS ps = false := by
        unfold checkS
        rw [hn]; simp; omega
      rw [e1]
      exact check_long A (n + 1) cap (by omega) hm w
/-- poly.all of one polynomial. -/
theorem all_one (g : Nat) (A : Option Addr) (n cap : Nat) (ps : List Cc) (hn : ps.length = n) (hm : n ≤ 9223372036854775807) (B : Nat) (w : World) (hs : Seq w B A (ps.map cv)) (hg : w.cell? ⟨g, 0, none⟩ = some (.slice A n cap)) :
    Calls Tryz.prog 34 #[.slice (some ⟨g, 0, none⟩) 1 1] w fun e w' => e = .returned (.bool (checkS ps)) ∧ w = w' := by
  have hck := check_any A n cap ps hn hm B w hs
  have HC := Lib.hid hck
  clear hck hs hn
  cases h : checkS ps
  · rw [h] at HC
    go_enter Tryz.func34, Tryz.ntmps34
    go_wp2
    refine wp_loop_rounds 1 ?_
    rw [rounds_succ]
    go_wp2_with (go_at_call 82; refine HC.out.mono ?_; rintro e w' ⟨rfl, rfl⟩; unfold errS)
    go_ret
    exact ⟨rfl, rfl⟩
  · rw [h] at HC
    go_enter Tryz.func34, Tryz.ntmps34
    go_wp2
    refine wp_loop_rounds 2 ?_
    rw [rounds_succ]
    go_wp2_with (go_at_call 82; refine HC.out.mono ?_; rintro e w' ⟨rfl, rfl⟩; unfold errS)
    rw [rounds_succ]
    go_wp2
    go_ret
    exact ⟨rfl, rfl⟩
/-- The closure of poly.at: one step of the walk; z lies in a box. -/
theorem at2_any (a b c d x y : Nat) (g : Nat) (w : World) (hg : w.cell? ⟨g, 0, none⟩ = some (.complex .f64 x y)) :
    Calls Tryz.prog 146 #[.complex .f64 a b, .complex .f64 c d, .pointer (some ⟨g, 0, none⟩)] w (RC (hornS (x, y) (a, b) (c, d)).1 (hornS (x, y) (a, b) (c, d)).2 w) := by
  unfold hornS
  go_enter Tryz.func146, Tryz.ntmps146
  go_wp2_with (first
    | (go_at_call 45; refine (cmul_any _ _ _ _ _).mono ?_; rintro e w' ⟨s, t, n, rfl, rfl⟩)
    | (go_at_call 38; refine (cadd_any _ _ _ _ _).mono ?_; rintro e w' ⟨s, t, n, rfl, rfl⟩))
  go_ret
  exact ⟨_, _, _, rfl, rfl⟩
theorem at1_any (a b : Nat) (w : World) : Calls Tryz.prog 145 #[.complex .f64 a b] w fun e w' => e = .returned (.complex .f64 a b) ∧ w = w' := by
  go_enter Tryz.func145, Tryz.ntmps145
  go_wp2
  go_ret
  exact ⟨rfl, rfl⟩
theorem hornS_pick (z : Cc) (X Y s t : Nat) (c : Cc) : hornS z (pick X s, pick Y t) c = hornS z (X, Y) c := by simp [hornS]
/-- poly.walk over complex numbers, with poly.at's closures. -/
theorem walk_some (A : Option Addr) (n cap : Nat) (ps : List Cc) (hn : ps.length = n + 1) (hm : n + 1 ≤ 9223372036854775807) (B : Nat) (g x y : Nat) (w : World) (hs : Seq w B A (ps.map cv)) (hg : w.cell? ⟨g, 0, none⟩ = some (.complex .f64 x y)) :
    Calls Tryz.prog 144 #[.slice A (n + 1) cap, .complex .f64 0 0, .func (.func 145) #[] #[], .func (.func 146) #[] #[.pointer (some ⟨g, 0, none⟩)]] w
      (RC (atFrom (x, y) ps 0).1 (atFrom (x, y) ps 0).2 w) := by
  obtain ⟨b, o, rfl, hb, hcl⟩ := hs.cat (k := n) (by omega)
  have HN := Lib.hid hn
  have HS := Lib.hid hs
  have HL := Lib.hid (atFrom_last (z := (x, y)) hn)
  clear hn hs hb
  go_enter Tryz.func144, Tryz.ntmps144
  go_wp2_with (go_at_call 145; refine (at1_any _ _ _).mono ?_; rintro e w' ⟨rfl, rfl⟩)
  clear hcl
  have e0 : ((n : Int) + 1 - 2) = (n : Int) - 1 := by omega
  rw [e0]
  clear e0
  go_loopw [9, 10] (fun s i wr => ∃ (k p q m : Nat), k ≤ n ∧ i = .int .i64 ((k : Int) - 1) ∧ s = .complex .f64 (pick (atFrom (x, y) ps k).1 p) (pick (atFrom (x, y) ps k).2 q) ∧ wr = w.drewN m) (fun _ i _ => (intOf i + 1).toNat)
  case atStart => exact ⟨n, _, _, 0, Nat.le_refl _, rfl, by rw [HL.out, pick_self, pick_self], rfl⟩
  case round =>
    obtain ⟨k, p, q, m, hk, rfl, rfl, rfl⟩ := hrel
    cases k with
    | zero =>
      go_wp2
      go_ret
      exact ⟨_, _, _, rfl, rfl⟩
    | succ k =>
      have hcl : (w.drewN m).cell? ⟨b, o + k, none⟩ = some (.complex .f64 (nth ps k).1 (nth ps k).2) := HS.out.cell (k := k) (by have := HN.out; omega)
      have hg' : (w.drewN m).cell? ⟨g, 0, none⟩ = some (.complex .f64 x y) := hg
      have e1 : (((k + 1 : Nat) : Int) - 1) = (k : Int) := by omega
      rw [e1]
      clear e1
      have HT := Lib.hid (atFrom_step (z := (x, y)) (ps := ps) (k := k) (by have := HN.out; omega))
      go_wp2_with (go_at_call 146; refine (at2_any _ _ _ _ x y g _ hg').mono ?_; rintro e w' ⟨s, t, j, rfl, rfl⟩)
      go_roundw
      case rel => exact ⟨k, s, t, m + j, by omega, rfl, by rw [HT.out]; simp [hornS_pick], rfl⟩
      case measure => simp [intOf]
theorem walk_none (A : Option Addr) (cap : Nat) (f1 f2 : Value) (w : World) :
    Calls Tryz.prog 144 #[.slice A 0 cap, .complex .f64 0 0, f1, f2] w fun e w' => e = .returned (.complex .f64 0 0) ∧ w = w' := by
  go_enter Tryz.func144, Tryz.ntmps144
  go_wp2
  go_ret
  exact ⟨rfl, rfl⟩
/-- A complex number, new memory. -/
def RCB (X Y : Nat) (w : World) (e : Ending) (w' : World) : Prop := ∃ s t, e = .returned (.complex .f64 (pick X s) (pick Y t)) ∧ Below w.heap.size w w'
/-- poly.at. -/
theorem pat_some (A : Option Addr) (n cap : Nat) (ps : List Cc) (hn : ps.length = n + 1) (hm : n + 1 ≤ 9223372036854775807) (x y : Nat) (w : World) (hs : Seq w w.heap.size A (ps.map cv)) :
    Calls Tryz.prog 81 #[.slice A (n + 1) cap, .complex .f64 x y] w (RCB (atFrom (x, y) ps 0).1 (atFrom (x, y) ps 0).2 w) := by
  have hmf : ∀ (fn : Fn) (first cap : Array Value) (w : World), (Instr.makeFunc fn first cap).run Tryz.prog w = .ok (.func fn first cap) w := fun _ _ _ _ => rfl
  have HS := Lib.hid hs
  have HN := Lib.hid hn
  clear hs hn
  go_enter Tryz.func81, Tryz.ntmps81
  go_wp2_with fail
  refine (walk_some A n cap ps HN.out hm w.heap.size w.heap.size x y _ (HS.out.alloc (Nat.le_refl _) _) (by simp)).mono ?_
  rintro e w' ⟨s, t, m, rfl, rfl⟩
  go_wp2
  go_ret
  exact ⟨_, _, rfl, by repeat (first | exact Below.refl _ _ | refine below_drewN ?_ _ | refine Below.alloc ?_ (by first | omega | (simp; omega) | simp) _ | refine Below.setCell ?_ (by first | omega | (simp; omega) | simp) _ | refine Below.trans ?_ (Below.mono (by assumption) (by first | omega | (simp; omega) | simp)) | apply Below.drew)⟩
theorem pat_none (A : Option Addr) (cap : Nat) (x y : Nat) (w : World) :
    Calls Tryz.prog 81 #[.slice A 0 cap, .complex .f64 x y] w (RCB 0 0 w) := by
  have hmf : ∀ (fn : Fn) (first cap : Array Value) (w : World), (Instr.makeFunc fn first cap).run Tryz.prog w = .ok (.func fn first cap) w := fun _ _ _ _ => rfl
  go_enter Tryz.func81, Tryz.ntmps81
  go_wp2_with fail
  refine (walk_none A cap _ _ _).mono ?_
  rintro e w' ⟨rfl, rfl⟩
  go_wp2
  go_ret
  exact ⟨0, 0, by rw [pick_of (by decide)]; rfl, by repeat (first | exact Below.refl _ _ | refine below_drewN ?_ _ | refine Below.alloc ?_ (by first | omega | (simp; omega) | simp) _ | refine Below.setCell ?_ (by first | omega | (simp; omega) | simp) _ | refine Below.trans ?_ (Below.mono (by assumption) (by first | omega | (simp; omega) | simp)) | apply Below.drew)⟩
theorem pat_any (A : Option Addr) (n cap : Nat) (ps : List Cc) (hn : ps.length = n) (hm : n ≤ 9223372036854775807) (x y : Nat) (w : World) (hs : Seq w w.heap.size A (ps.map cv)) :
    Calls Tryz.prog 81 #[.slice A n cap, .complex .f64 x y] w (RCB (atFrom (x, y) ps 0).1 (atFrom (x, y) ps 0).2 w) := by
  cases n with
  | zero =>
    have h0 : ps = [] := List.eq_nil_of_length_eq_zero hn
    subst h0
    exact pat_none A cap x y w
  | succ n => exact pat_some A n cap ps hn hm x y w hs
/-- What At and SlopeAt answer. -/
def RCE (ok : Bool) (X Y : Nat) (w : World) (e : Ending) (w' : World) : Prop :=
  (if ok then ∃ s t, e = .returned (.tuple #[.complex .f64 (pick X s) (pick Y t), .int .i64 0]) else e = .returned (.tuple #[.complex .f64 0 0, .int .i64 2])) ∧ Below w.heap.size w w'
theorem At_any (A : Option Addr) (n cap : Nat) (ps : List Cc) (hn : ps.length = n) (hm : n ≤ 9223372036854775807) (x y : Nat) (w : World) (hs : Seq w w.heap.size A (ps.map cv)) :
    Calls Tryz.prog 33 #[.slice A n cap, .complex .f64 x y] w (RCE (checkS ps) (atFrom (x, y) ps 0).1 (atFrom (x, y) ps 0).2 w) := by
  have HS := Lib.hid hs
  have HN := Lib.hid hn
  clear hs hn
  unfold RCE
  cases hc : checkS ps
  · go_enter Tryz.func33, Tryz.ntmps33
    go_wp2_with fail
    refine (all_one w.heap.size A n cap ps HN.out hm w.heap.size _ (HS.out.alloc (Nat.le_refl _) _) (by simp)).mono ?_
    rintro e w' ⟨rfl, rfl⟩
    rw [hc]
    go_wp2
    go_ret2
    exact ⟨rfl, by repeat (first | exact Below.refl _ _ | refine below_drewN ?_ _ | refine Below.alloc ?_ (by first | omega | (simp; omega) | simp) _ | refine Below.setCell ?_ (by first | omega | (simp; omega) | simp) _ | refine Below.trans ?_ (Below.mono (by assumption) (by first | omega | (simp; omega) | simp)) | apply Below.drew)⟩
  · go_enter Tryz.func33, Tryz.ntmps33
    go_wp2_with fail
    refine (all_one w.heap.size A n cap ps HN.out hm w.heap.size _ (HS.out.alloc (Nat.le_refl _) _) (by simp)).mono ?_
    rintro e w' ⟨rfl, rfl⟩
    rw [hc]
    go_wp2_with fail
    refine (pat_any A n cap ps HN.out hm x y _ ((HS.out.alloc (Nat.le_refl _) _).more (by simp))).mono ?_
    rintro e w' ⟨s, t, rfl, hb⟩
    go_wp2
    go_ret2
    exact ⟨⟨_, _, rfl⟩, by repeat (first | exact Below.refl _ _ | refine below_drewN ?_ _ | refine Below.alloc ?_ (by first | omega | (simp; omega) | simp) _ | refine Below.setCell ?_ (by first | omega | (simp; omega) | simp) _ | refine Below.trans ?_ (Below.mono (by assumption) (by first | omega | (simp; omega) | simp)) | apply Below.drew)⟩
end Go.Proofs.YtbgjcpnbdgljbaaGreatDoor

/- The contracts of poly.steep and poly.SlopeAt, at this translation. -/
namespace Go.Proofs.YtbgjcpnbdgljbaaGreatDoor
open Go.RowKit Go.Fil
attribute [local irreducible] fop fsqrt fup fabs fneg pick

theorem Tryz.infoC : (Tryz.prog.info? 41).map (fun i => (i.zero, i.size, i.bytes)) = some (some (.complex .f64 0 0), 1, 16) := by kernel_rfl
theorem seq_of_own {w : World} {base e n : Nat} {v : Value} {xs : List Value} (h : w.ownsRow base e 1 v n xs) : ∃ A c, v = .slice A n c ∧ Seq w w.heap.size A xs := by
  rcases n with _ | n
  · have hx : xs = [] := List.eq_nil_of_length_eq_zero (by simpa using h.1)
    rcases h.2 with ⟨rfl, _⟩ | ⟨g, cap, cur, rfl, _⟩
    · exact ⟨none, 0, rfl, .inl hx⟩
    · exact ⟨_, cap, rfl, .inl hx⟩
  · obtain ⟨g, cap, hv, _, hlt⟩ := World.ownsRow.form h (by omega)
    subst hv
    refine ⟨_, cap, rfl, .inr ⟨g, 0, rfl, hlt, fun k u hu => ?_⟩⟩
    have := h.cells (g := g) rfl k u hu
    rw [Addr.add_lit] at this
    exact this

theorem own_drewN {w : World} {base e size n : Nat} {v : Value} {xs : List Value} (h : w.ownsRow base e size v n xs) (j : Nat) : (w.drewN j).ownsRow base e size v n xs := h
/-- poly.steep of a polynomial that may be. -/
theorem steep_any (A : Option Addr) (n cap : Nat) (ps : List Cc) (hn : ps.length = n) (hc : checkS ps = true) (w : World) (hs : Seq w w.heap.size A (ps.map cv)) :
    Calls Tryz.prog 171 #[.slice A n cap] w fun e w' =>
      ∃ v, e = .returned v ∧ w'.ownsRow w.heap.size 41 1 v (n - 1) ((steepS ps).map cv) ∧ Below w.heap.size w w' := by
  obtain ⟨i0, hi, hz0, hz1, hz2⟩ := info_parts Tryz.infoC
  have hle : n ≤ 17 := by unfold checkS at hc; simp at hc; omega
  have haf : allfin ps = true := by unfold checkS at hc; simp at hc; exact hc.2.2
  have HS := Lib.hid hs
  have HN := Lib.hid hn
  have HF := Lib.hid haf
  clear hs hn haf hc
  go_enter Tryz.func171, Tryz.ntmps171
  go_wp2
  go_loopw [3, 4] (fun v i wr => ∃ k : Nat, 1 ≤ k ∧ (k ≤ n ∨ k = 1) ∧ i = .int .i64 k ∧ wr.ownsRow w.heap.size 41 1 v (k - 1) ((steepTo ps k).map cv) ∧ Below w.heap.size w wr) (fun _ i _ => n - (intOf i).toNat)
  case atStart => exact ⟨1, Nat.le_refl _, .inr rfl, rfl, World.ownsRow_nil _ _ _ _, Below.refl _ _⟩
  case round =>
    obtain ⟨k, hk1, hk, rfl, hown, hnx⟩ := hrel
    by_cases hlt : k < n
    · obtain ⟨b, o, rfl, hb, hcl⟩ := (HS.out.below hnx (Nat.le_refl _)).cat (k := k) (by have := HN.out; omega)
      clear hb
      go_wp2_with (first
        | (go_at_call 215; refine (cscale_any _ _ _ _).mono ?_; rintro e w' ⟨s, t, j, rfl, rfl⟩)
        | (at_builtin; refine wpList_append_own _ rfl _ _ 24 rfl w.heap.size 41 i0 (.complex .f64 0 0) 1 16 Tryz.underlying24 hi hz0 hz1 hz2 rfl (by decide) _ _ _ rfl ((own_drewN hown _).alloc _) ⟨wr.heap.size, 0, none⟩ 1 1 [.complex .f64 (pick (fop .mul (nth ps k).1 (floatOfInt .f64 k)) s) (pick (fop .mul (nth ps k).2 (floatOfInt .f64 k)) t)] rfl rfl ?c1 ?c2 ?c3 ?c4 ?c5 ?_))
      case c1 =>
        intro j u hj
        match j, hj with
        | 0, hj =>
          simp at hj; subst hj; simp only [Addr.add, if_true]
          rw [World.cell?_alloc_at _ _ _ _ (by simp)]; rfl
      case c2 => intro u hu; simp at hu; subst hu; rfl
      case c3 => unfold maxLen; omega
      case c4 => omega
      case c5 => have := hnx.size; simp; omega
      intro v' w1 hown' hgrow _
      have hnx' : Below w.heap.size w w1 := (show Below w.heap.size w _ from (below_drewN hnx j).alloc (by have := hnx.size; simpa using this) _).grown hgrow (by have := hnx.size; simp; omega) (fun q hq => (hown.lt q hq).1)
      have hown2 : w1.ownsRow w.heap.size 41 1 v' (k + 1 - 1) ((steepTo ps (k + 1)).map cv) := by
        have e := scaleC_pick HF.out (k := k) (by have := HN.out; omega) (by omega) s t
        rw [steepTo_next ps hk1, List.map_append, show k + 1 - 1 = k by omega, ← e]
        exact hown'
      clear hown' hgrow hown hcl
      go_wp2
      go_roundw
      case rel => exact ⟨k + 1, by omega, by omega, by go_num, hown2, hnx'⟩
      case measure => simp [intOf]; omega
    · have e : steepTo ps k = steepS ps := by
        unfold steepS
        have := HN.out
        rcases hk with h | h
        · rw [show k = ps.length by omega]
        · unfold steepTo; rw [show k - 1 = 0 by omega, show ps.length - 1 = 0 by omega]
      rw [e] at hown
      have hkn : k - 1 = n - 1 := by omega
      rw [hkn] at hown
      clear e hkn
      go_wp2
      go_ret
      exact ⟨_, rfl, hown, hnx⟩
/-- poly.SlopeAt. -/
theorem SlopeAt_any (A : Option Addr) (n cap : Nat) (ps : List Cc) (hn : ps.length = n) (hm : n ≤ 9223372036854775807) (x y : Nat) (w : World) (hs : Seq w w.heap.size A (ps.map cv)) :
    Calls Tryz.prog 108 #[.slice A n cap, .complex .f64 x y] w (RCE (checkS ps) (atFrom (x, y) (steepS ps) 0).1 (atFrom (x, y) (steepS ps) 0).2 w) := by
  have HS := Lib.hid hs
  have HN := Lib.hid hn
  clear hs hn
  unfold RCE
  cases hc : checkS ps
  · go_enter Tryz.func108, Tryz.ntmps108
    go_wp2_with fail
    refine (all_one w.heap.size A n cap ps HN.out hm w.heap.size _ (HS.out.alloc (Nat.le_refl _) _) (by simp)).mono ?_
    rintro e w' ⟨rfl, rfl⟩
    rw [hc]
    go_wp2
    go_ret2
    exact ⟨rfl, by repeat (first | exact Below.refl _ _ | refine below_drewN ?_ _ | refine Below.alloc ?_ (by first | omega | (simp; omega) | simp) _ | refine Below.setCell ?_ (by first | omega | (simp; omega) | simp) _ | refine Below.trans ?_ (Below.mono (by assumption) (by first | omega | (simp; omega) | simp)) | apply Below.drew)⟩
  · have hn17 : n ≤ 17 := by have := HN.out; unfold checkS at hc; simp at hc; omega
    have HC := Lib.hid hc
    go_enter Tryz.func108, Tryz.ntmps108
    go_wp2_with fail
    refine (all_one w.heap.size A n cap ps HN.out hm w.heap.size _ (HS.out.alloc (Nat.le_refl _) _) (by simp)).mono ?_
    rintro e w' ⟨rfl, rfl⟩
    rw [hc]
    clear hc
    go_wp2_with fail
    refine (steep_any A n cap ps HN.out HC.out _ ((HS.out.alloc (Nat.le_refl _) _).more (by simp))).mono ?_
    rintro e w1 ⟨v, rfl, hown, hb⟩
    obtain ⟨A1, c1, rfl, hs1⟩ := seq_of_own hown
    clear hown
    have HS1 := Lib.hid hs1
    clear hs1
    go_wp2_with fail
    refine (pat_any A1 (n - 1) c1 (steepS ps) (by have := HN.out; unfold steepS; rw [steepTo_length]; omega) (by omega) x y _ HS1.out).mono ?_
    rintro e w2 ⟨s, t, rfl, hb2⟩
    have z0 : w.heap.size < w1.heap.size := by have := hb.size; simp at this; omega
    go_wp2
    go_ret2
    exact ⟨⟨_, _, rfl⟩, by repeat (first | exact Below.refl _ _ | refine below_drewN ?_ _ | refine Below.alloc ?_ (by first | omega | (simp; omega) | simp) _ | refine Below.setCell ?_ (by first | omega | (simp; omega) | simp) _ | refine Below.trans ?_ (Below.mono (by assumption) (by first | omega | (simp; omega) | simp)) | apply Below.drew)⟩
end Go.Proofs.YtbgjcpnbdgljbaaGreatDoor

/- The contracts of package poly on balls, at this translation. -/
namespace Go.Proofs.YtbgjcpnbdgljbaaGreatDoor
open Go.RowKit Go.Fil
attribute [local irreducible] fop fsqrt fup fabs fneg pick

theorem own_below {w w' : World} {base e size n : Nat} {v : Value} {xs : List Value} (h : w.ownsRow base e size v n xs) (hb : Below w.heap.size w w') : w'.ownsRow base e size v n xs := by
  refine World.ownsRow.kept (row := none) h ⟨hb.os, hb.tape, hb.output, hb.size, fun i hi _ => hb.block i hi⟩ ?_
  cases v.ownBlock
  · exact .inl rfl
  · exact .inr (by simp)
theorem Tryz.infoB : (Tryz.prog.info? 57).map (fun i => (i.zero, i.size, i.bytes)) = some (some (.agg #[.complex .f64 0 0, .float .f64 0]), 2, 24) := by kernel_rfl
/-- The two cells of one new ball. -/
theorem ball_new (w : World) (b : Bl) (t : TypeId) : ∀ j u, [Value.complex .f64 b.1 b.2.1, Value.float .f64 b.2.2][j]? = some u → (w.alloc (.cells #[.complex .f64 b.1 b.2.1, .float .f64 b.2.2] t)).cell? ((⟨w.heap.size, 0, none⟩ : Addr).add j) = some u := by
  intro j u hj
  match j, hj with
  | 0, hj =>
    simp at hj; subst hj; simp only [Addr.add, if_true]
    rw [World.cell?_alloc_at _ _ _ _ (by simp)]; rfl
  | 1, hj =>
    simp at hj; subst hj
    rw [Addr.add_lit, World.cell?_alloc_at _ _ _ _ (by simp)]; rfl
/-- poly.points of a polynomial that may be. -/
theorem points_any (A : Option Addr) (n cap : Nat) (ps : List Cc) (hn : ps.length = n) (hle : n ≤ 17) (w : World) (hs : Seq w w.heap.size A (ps.map cv)) :
    Calls Tryz.prog 173 #[.slice A n cap] w fun e w' =>
      ∃ v, e = .returned v ∧ w'.ownsRow w.heap.size 57 2 v n (bcells (pointsS ps)) ∧ Below w.heap.size w w' := by
  obtain ⟨i0, hi, hz0, hz1, hz2⟩ := info_parts Tryz.infoB
  have HS := Lib.hid hs
  have HN := Lib.hid hn
  clear hs hn
  go_enter Tryz.func173, Tryz.ntmps173
  go_wp2
  go_loopw [3, 8] (fun v i wr => ∃ k : Nat, k ≤ n ∧ i = .int .i64 k ∧ wr.ownsRow w.heap.size 57 2 v k (bcells (pointsTo ps k)) ∧ Below w.heap.size w wr) (fun _ i _ => n - (intOf i).toNat)
  case atStart => exact ⟨0, Nat.zero_le _, rfl, World.ownsRow_nil _ _ _ _, Below.refl _ _⟩
  case round =>
    obtain ⟨k, hk, rfl, hown, hnx⟩ := hrel
    by_cases hlt : k < n
    · obtain ⟨b, o, rfl, hb, hcl⟩ := (HS.out.below hnx (Nat.le_refl _)).cat (k := k) (by have := HN.out; omega)
      clear hb
      go_wp2_with (first
        | (go_at_call 112; refine (point_any _ _ _).mono ?_; rintro e w1 ⟨rfl, hb⟩)
        | (at_builtin; refine wpList_append_own _ rfl _ _ 108 rfl w.heap.size 57 i0 (.agg #[.complex .f64 0 0, .float .f64 0]) 2 24 Tryz.underlying108 hi hz0 hz1 hz2 rfl (by decide) _ _ _ rfl ((own_below hown hb).alloc _) ⟨w1.heap.size, 0, none⟩ 1 1 [.complex .f64 (pointS (nth ps k).1 (nth ps k).2).1 (pointS (nth ps k).1 (nth ps k).2).2.1, .float .f64 (pointS (nth ps k).1 (nth ps k).2).2.2] rfl rfl ?c1 ?c2 ?c3 ?c4 ?c5 ?_))
      case c1 => exact ball_new w1 _ _
      case c2 => intro u hu; simp at hu; rcases hu with rfl | rfl <;> rfl
      case c3 => unfold maxLen; omega
      case c4 => omega
      case c5 => have := hnx.size; have := hb.size; simp; omega
      intro v' w2 hown' hgrow _
      have z1 : w.heap.size ≤ w1.heap.size := by have := hnx.size; have := hb.size; omega
      have hnx' : Below w.heap.size w w2 := (show Below w.heap.size w _ from (hnx.trans (hb.mono hnx.size)).alloc z1 _).grown hgrow (by simp; omega) (fun q hq => (hown.lt q hq).1)
      have hown2 : w2.ownsRow w.heap.size 57 2 v' (k + 1) (bcells (pointsTo ps (k + 1))) := by
        rw [pointsTo_next, bcells_append]
        exact hown'
      clear hown' hgrow hown hcl hb hnx
      go_wp2
      go_roundw
      case rel => exact ⟨k + 1, by omega, by go_num, hown2, hnx'⟩
      case measure => simp [intOf]; omega
    · obtain rfl : k = n := by omega
      go_wp2
      go_ret
      exact ⟨_, rfl, by rw [← HN.out] at hown; unfold pointsS; rw [← HN.out]; exact hown, hnx⟩
theorem on1_any (a b r : Nat) (w : World) : Calls Tryz.prog 217 #[.agg #[.complex .f64 a b, .float .f64 r]] w (RB (a, b, r) w) := by
  go_enter Tryz.func217, Tryz.ntmps217
  go_wp2
  exact bodyPost_ret (v := .agg #[.complex .f64 a b, .float .f64 r]) (by simp [results, Tryz.results217, go_sem]) rfl ⟨rfl, by repeat (first | exact Below.refl _ _ | refine below_drewN ?_ _ | refine Below.alloc ?_ (by first | omega | (simp; omega) | simp) _ | refine Below.setCell ?_ (by first | omega | (simp; omega) | simp) _ | refine Below.trans ?_ (Below.mono (by assumption) (by first | omega | (simp; omega) | simp)) | apply Below.drew)⟩
set_option maxRecDepth 100000 in
set_option maxHeartbeats 800000 in
/-- The closure of poly.on: one step of the walk; z lies in a box. -/
theorem on2_any (a b r c d q x y z g : Nat) (w : World) (hlt : g < w.heap.size) (hg0 : w.cell? ⟨g, 0, none⟩ = some (.complex .f64 x y)) (hg1 : w.cell? ⟨g, 1, none⟩ = some (.float .f64 z)) :
    Calls Tryz.prog 218 #[.agg #[.complex .f64 a b, .float .f64 r], .agg #[.complex .f64 c d, .float .f64 q], .pointer (some ⟨g, 0, none⟩)] w (RB (hornB (x, y, z) (a, b, r) (c, d, q)) w) := by
  have hlt1 : g < w.heap.size + 1 := by omega
  have hlt2 : g < w.heap.size + 1 + 1 := by omega
  have hne0 : ¬ w.heap.size = g := by omega
  unfold hornB
  go_enter Tryz.func218, Tryz.ntmps218
  go_wp2_with fail
  go_region_held3 (fun x' => x'.cell? ⟨w.heap.size, 0, none⟩ = some (.complex .f64 a b) ∧ x'.cell? ⟨w.heap.size, 1, none⟩ = some (.float .f64 r) ∧ x'.cell? ⟨w.heap.size + 1, 0, none⟩ = some (.complex .f64 c d) ∧ x'.cell? ⟨w.heap.size + 1, 1, none⟩ = some (.float .f64 q) ∧ x'.cell? ⟨g, 0, none⟩ = some (.complex .f64 x y) ∧ x'.cell? ⟨g, 1, none⟩ = some (.float .f64 z)) (((try dsimp only); refine ⟨?_, ?_, ?_, ?_, ?_, ?_⟩ <;> first | (simp [go_sem, World.cell?_alloc_past, *]; done) | (rw [hc _ _ (by first | assumption | (simp; assumption) | omega | (simp; omega))]; first | exact (‹_ ∧ _ ∧ _ ∧ _ ∧ _ ∧ _›).1 | exact (‹_ ∧ _ ∧ _ ∧ _ ∧ _ ∧ _›).2.1 | exact (‹_ ∧ _ ∧ _ ∧ _ ∧ _ ∧ _›).2.2.1 | exact (‹_ ∧ _ ∧ _ ∧ _ ∧ _ ∧ _›).2.2.2.1 | exact (‹_ ∧ _ ∧ _ ∧ _ ∧ _ ∧ _›).2.2.2.2.1 | exact (‹_ ∧ _ ∧ _ ∧ _ ∧ _ ∧ _›).2.2.2.2.2)))
    (first
      | (go_at_call 114; refine (bmul_any _ _ _ _ _ _ _).mono ?_; rintro e w1 ⟨rfl, hb⟩; obtain ⟨hc, hf⟩ := bcell hb; (try simp only [World.heap_drewN, World.cell?_drewN, World.frozen?_drewN] at hc hf); have z0 : w.heap.size < w1.heap.size := (by have := hb.size; (try simp at this); omega); have z1 : w.heap.size + 1 < w1.heap.size := (by have := hb.size; (try simp at this); omega); have z2 : w.heap.size + 1 + 1 < w1.heap.size := (by have := hb.size; (try simp at this); omega); have z3 : w.heap.size + 2 < w1.heap.size := (by omega); have zg : g < w1.heap.size := (by omega))
      | (go_at_call 219; refine (badd_any _ _ _ _ _ _ _).mono ?_; rintro e w1 ⟨rfl, hb⟩; obtain ⟨hc, hf⟩ := bcell hb; (try simp only [World.heap_drewN, World.cell?_drewN, World.frozen?_drewN] at hc hf); have z0 : w.heap.size < w1.heap.size := (by have := hb.size; (try simp at this); omega); have z1 : w.heap.size + 1 < w1.heap.size := (by have := hb.size; (try simp at this); omega); have z2 : w.heap.size + 1 + 1 < w1.heap.size := (by have := hb.size; (try simp at this); omega); have z3 : w.heap.size + 2 < w1.heap.size := (by omega); have zg : g < w1.heap.size := (by omega)))
  go_wp2
  exact bodyPost_ret (v := .agg #[.complex .f64 (addS (mulS (a, b, r) (x, y, z)) (c, d, q)).1 (addS (mulS (a, b, r) (x, y, z)) (c, d, q)).2.1, .float .f64 (addS (mulS (a, b, r) (x, y, z)) (c, d, q)).2.2])
    (by simp [results, Tryz.results218, go_sem, *]) rfl ⟨rfl, by repeat (first | exact Below.refl _ _ | refine below_drewN ?_ _ | refine Below.alloc ?_ (by first | omega | (simp; omega) | simp) _ | refine Below.setCell ?_ (by first | omega | (simp; omega) | simp) _ | refine Below.trans ?_ (Below.mono (by assumption) (by first | omega | (simp; omega) | simp)) | apply Below.drew)⟩
end Go.Proofs.YtbgjcpnbdgljbaaGreatDoor
