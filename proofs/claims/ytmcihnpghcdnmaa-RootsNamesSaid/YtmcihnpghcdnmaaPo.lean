/- The contracts of package poly by floats, at this translation. -/
import Derived.Test.YtmcihnpghcdnmaaBb
import Derived.Test.YtmcihnpghcdnmaaSq
import Derived.LoopTactic
import Derived.Deep.LoopGhost
import Derived.Lib.Hide
import Derived.Deep.Light
namespace Go.Proofs.Ytmcihnpghcdnmaa
open Go.RowKit Go.Fil
attribute [local irreducible] fop fsqrt fup fabs fneg pick

/-- A slice's array holds these cells, one behind the other, in a block below B; of no cells nothing is said. -/
def Seq (w : World) (B : Nat) (A : Option Addr) (xs : List Value) : Prop :=
  xs = [] ∨ ∃ b o, A = some ⟨b, o, none⟩ ∧ b < B ∧ ∀ k v, xs[k]? = some v → w.cell? ⟨b, o + k, none⟩ = some v
theorem Seq.keep {w w' : World} {B : Nat} {A : Option Addr} {xs : List Value} (h : Seq w B A xs) (hk : ∀ b o, b < B → w'.cell? ⟨b, o, none⟩ = w.cell? ⟨b, o, none⟩) : Seq w' B A xs := by
  rcases h with h | ⟨b, o, hA, hb, hc⟩
  · exact .inl h
  · exact .inr ⟨b, o, hA, hb, fun k v hv => (hk _ _ hb).trans (hc k v hv)⟩
theorem Seq.below {w w' : World} {B B' : Nat} {A : Option Addr} {xs : List Value} (h : Seq w B A xs) (hb : Below B' w w') (hB : B ≤ B') : Seq w' B A xs :=
  h.keep fun b o hlt => hb.cell (p := ⟨b, o, none⟩) (Nat.lt_of_lt_of_le hlt hB)
theorem Seq.more {w : World} {B B' : Nat} {A : Option Addr} {xs : List Value} (h : Seq w B A xs) (hB : B ≤ B') : Seq w B' A xs := by
  rcases h with h | ⟨b, o, hA, hb, hc⟩
  · exact .inl h
  · exact .inr ⟨b, o, hA, Nat.lt_of_lt_of_le hb hB, hc⟩
theorem Seq.drewN {w : World} {B : Nat} {A : Option Addr} {xs : List Value} (h : Seq w B A xs) (n : Nat) : Seq (w.drewN n) B A xs := h
theorem Seq.alloc {w : World} {B : Nat} {A : Option Addr} {xs : List Value} (h : Seq w B A xs) (hB : B ≤ w.heap.size) (o : Obj) : Seq (w.alloc o) B A xs :=
  h.below ((Below.refl B w).alloc hB o) (Nat.le_refl _)
/-- A complex number as a value. -/
def cv (c : Cc) : Value := .complex .f64 c.1 c.2
theorem Seq.cat {w : World} {B : Nat} {A : Option Addr} {ps : List Cc} (h : Seq w B A (ps.map cv)) {k : Nat} (hk : k < ps.length) :
    ∃ b o, A = some ⟨b, o, none⟩ ∧ b < B ∧ w.cell? ⟨b, o + k, none⟩ = some (.complex .f64 (nth ps k).1 (nth ps k).2) := by
  rcases h with h | ⟨b, o, hA, hb, hc⟩
  · have : ps = [] := by simpa using h
    subst this; simp at hk
  · exact ⟨b, o, hA, hb, hc k _ (by simp [List.getElem?_map, List.getElem?_eq_getElem hk, cv, nth_eq hk])⟩
/-- The same where the address is known. -/
theorem Seq.cell {w : World} {B b o : Nat} {ps : List Cc} (h : Seq w B (some ⟨b, o, none⟩) (ps.map cv)) {k : Nat} (hk : k < ps.length) :
    w.cell? ⟨b, o + k, none⟩ = some (.complex .f64 (nth ps k).1 (nth ps k).2) := by
  obtain ⟨b', o', hA, _, hc⟩ := h.cat hk
  injection hA with hA
  injection hA with h1 h2
  subst h1; subst h2
  exact hc

theorem pzero_any (a b : Nat) (w : World) : Calls Try.prog 48 #[.complex .f64 a b] w fun e w' => e = .returned (.bool (czero a b)) ∧ w = w' := by
  go_enter Try.func48, Try.ntmps48
  go_wp2
  go_ret
  exact ⟨rfl, rfl⟩
theorem pfinite_any (a b : Nat) (w : World) : Calls Try.prog 49 #[.complex .f64 a b] w fun e w' => e = .returned (.bool (cfin a b)) ∧ w = w' := by
  cases hc : cfin a b
  · go_enter Try.func49, Try.ntmps49
    go_wp2_with (go_at_call 27; refine (kind_not hc _).mono ?_; rintro e w' ⟨k, hk, rfl, rfl⟩)
    go_ret
    exact ⟨rfl, rfl⟩
  · go_enter Try.func49, Try.ntmps49
    go_wp2_with (go_at_call 27; refine (kind_fin hc _).mono ?_; rintro e w' ⟨rfl, rfl⟩)
    go_ret
    exact ⟨rfl, rfl⟩
/-- poly.Check of a list that is not empty, nor too long, its last coefficient not 0. -/
theorem check_some (A : Option Addr) (n cap : Nat) (ps : List Cc) (hn : ps.length = n + 1) (hle : n + 1 ≤ 17) (B : Nat) (w : World) (hs : Seq w B A (ps.map cv)) (hz : czero (nth ps n).1 (nth ps n).2 = false) :
    Calls Try.prog 26 #[.slice A (n + 1) cap] w fun e w' => e = .returned (.int .i64 (errS (allfin ps))) ∧ w = w' := by
  obtain ⟨b, o, rfl, hb, hcl⟩ := hs.cat (k := n) (by omega)
  have HN := Lib.hid hn
  have HS := Lib.hid hs
  clear hn hs hb
  go_enter Try.func26, Try.ntmps26
  go_wp2_with (first
    | (go_at_call 48; refine (pzero_any _ _ _).mono ?_; rintro e w' ⟨rfl, rfl⟩))
  clear hcl hz
  go_loop [24] (fun i => ∃ k : Nat, k ≤ n + 1 ∧ i = .int .i64 k ∧ FinTo ps k) (fun i => n + 1 - (intOf i).toNat)
  case atStart => exact ⟨0, by omega, rfl, FinTo.zero ps⟩
  case round =>
    obtain ⟨k, hk, rfl, hfin⟩ := hrel
    by_cases hlt : k < n + 1
    · have hcl := HS.out.cell (k := k) (by have := HN.out; omega)
      cases hf : cfin (nth ps k).1 (nth ps k).2
      · go_wp2_with (first
          | (go_at_call 49; refine (pfinite_any _ _ _).mono ?_; rintro e w' ⟨rfl, rfl⟩))
        go_ret
        exact ⟨by rw [allfin_not (by have := HN.out; omega) hf]; rfl, rfl⟩
      · go_wp2_with (first
          | (go_at_call 49; refine (pfinite_any _ _ _).mono ?_; rintro e w' ⟨rfl, rfl⟩))
        go_round
        case rel => exact ⟨k + 1, by omega, by go_num, hfin.next hf⟩
        case measure => simp [intOf]; omega
    · have hk' : k = n + 1 := by omega
      subst hk'
      go_wp2
      go_ret
      exact ⟨by rw [hfin.all HN.out]; rfl, rfl⟩
theorem check_nil (A : Option Addr) (cap : Nat) (w : World) :
    Calls Try.prog 26 #[.slice A 0 cap] w fun e w' => e = .returned (.int .i64 0) ∧ w = w' := by
  go_enter Try.func26, Try.ntmps26
  go_wp2
  refine wp_loop_rounds 1 ?_
  rw [rounds_succ]
  go_wp2
  go_ret
  exact ⟨rfl, rfl⟩
theorem check_long (A : Option Addr) (n cap : Nat) (hn : 17 < n) (hm : n ≤ 9223372036854775807) (w : World) :
    Calls Try.prog 26 #[.slice A n cap] w fun e w' => e = .returned (.int .i64 2) ∧ w = w' := by
  go_enter Try.func26, Try.ntmps26
  go_wp2
  go_ret
  exact ⟨rfl, rfl⟩
theorem check_zero (A : Option Addr) (n cap : Nat) (ps : List Cc) (hn : ps.length = n + 1) (hle : n + 1 ≤ 17) (B : Nat) (w : World) (hs : Seq w B A (ps.map cv)) (hz : czero (nth ps n).1 (nth ps n).2 = true) :
    Calls Try.prog 26 #[.slice A (n + 1) cap] w fun e w' => e = .returned (.int .i64 2) ∧ w = w' := by
  obtain ⟨b, o, rfl, hb, hcl⟩ := hs.cat (k := n) (by omega)
  clear hn hs hb
  go_enter Try.func26, Try.ntmps26
  go_wp2_with (first
    | (go_at_call 48; refine (pzero_any _ _ _).mono ?_; rintro e w' ⟨rfl, rfl⟩))
  go_ret
  exact ⟨rfl, rfl⟩
/-- poly.Check, of any coefficients. -/
theorem check_any (A : Option Addr) (n cap : Nat) (ps : List Cc) (hn : ps.length = n) (hm : n ≤ 9223372036854775807) (B : Nat) (w : World) (hs : Seq w B A (ps.map cv)) :
    Calls Try.prog 26 #[.slice A n cap] w fun e w' => e = .returned (.int .i64 (errS (checkS ps))) ∧ w = w' := by
  cases n with
  | zero =>
    have h0 : ps = [] := List.eq_nil_of_length_eq_zero hn
    subst h0
    exact check_nil A cap w
  | succ n =>
    by_cases hle : n + 1 ≤ 17
    · cases hz : czero (nth ps n).1 (nth ps n).2
      · have e1 : checkS ps = allfin ps := by
          unfold checkS lastzero czeroC
          rw [hn, Nat.add_sub_cancel, hz]; simp; omega
        rw [e1]
        exact check_some A n cap ps hn hle B w hs hz
      · have e1 : checkS ps = false := by
          unfold checkS lastzero czeroC
          rw [hn, Nat.add_sub_cancel, hz]; simp
        rw [e1]
        exact check_zero A n cap ps hn hle B w hs hz
    · have e1 : checkS ps = false := by
        unfold checkS
        rw [hn]; simp; omega
      rw [e1]
      exact check_long A (n + 1) cap (by omega) hm w
/-- poly.all of one polynomial. -/
theorem all_one (g : Nat) (A : Option Addr) (n cap : Nat) (ps : List Cc) (hn : ps.length = n) (hm : n ≤ 9223372036854775807) (B : Nat) (w : World) (hs : Seq w B A (ps.map cv)) (hg : w.cell? ⟨g, 0, none⟩ = some (.slice A n cap)) :
    Calls Try.prog 33 #[.slice (some ⟨g, 0, none⟩) 1 1] w fun e w' => e = .returned (.bool (checkS ps)) ∧ w = w' := by
  have hck := check_any A n cap ps hn hm B w hs
  have HC := Lib.hid hck
  clear hck hs hn
  cases h : checkS ps
  · rw [h] at HC
    go_enter Try.func33, Try.ntmps33
    go_wp2
    refine wp_loop_rounds 1 ?_
    rw [rounds_succ]
    go_wp2_with (go_at_call 26; refine HC.out.mono ?_; rintro e w' ⟨rfl, rfl⟩; unfold errS)
    go_ret
    exact ⟨rfl, rfl⟩
  · rw [h] at HC
    go_enter Try.func33, Try.ntmps33
    go_wp2
    refine wp_loop_rounds 2 ?_
    rw [rounds_succ]
    go_wp2_with (go_at_call 26; refine HC.out.mono ?_; rintro e w' ⟨rfl, rfl⟩; unfold errS)
    rw [rounds_succ]
    go_wp2
    go_ret
    exact ⟨rfl, rfl⟩
/-- The closure of poly.at: one step of the walk; z lies in a box. -/
theorem at2_any (a b c d x y : Nat) (g : Nat) (w : World) (hg : w.cell? ⟨g, 0, none⟩ = some (.complex .f64 x y)) :
    Calls Try.prog 57 #[.complex .f64 a b, .complex .f64 c d, .pointer (some ⟨g, 0, none⟩)] w (RC (hornS (x, y) (a, b) (c, d)).1 (hornS (x, y) (a, b) (c, d)).2 w) := by
  unfold hornS
  go_enter Try.func57, Try.ntmps57
  go_wp2_with (first
    | (go_at_call 12; refine (cmul_any _ _ _ _ _).mono ?_; rintro e w' ⟨s, t, n, rfl, rfl⟩)
    | (go_at_call 58; refine (cadd_any _ _ _ _ _).mono ?_; rintro e w' ⟨s, t, n, rfl, rfl⟩))
  go_ret
  exact ⟨_, _, _, rfl, rfl⟩
theorem at1_any (a b : Nat) (w : World) : Calls Try.prog 56 #[.complex .f64 a b] w fun e w' => e = .returned (.complex .f64 a b) ∧ w = w' := by
  go_enter Try.func56, Try.ntmps56
  go_wp2
  go_ret
  exact ⟨rfl, rfl⟩
theorem hornS_pick (z : Cc) (X Y s t : Nat) (c : Cc) : hornS z (pick X s, pick Y t) c = hornS z (X, Y) c := by simp [hornS]
/-- poly.walk over complex numbers, with poly.at's closures. -/
theorem walk_some (A : Option Addr) (n cap : Nat) (ps : List Cc) (hn : ps.length = n + 1) (hm : n + 1 ≤ 9223372036854775807) (B : Nat) (g x y : Nat) (w : World) (hs : Seq w B A (ps.map cv)) (hg : w.cell? ⟨g, 0, none⟩ = some (.complex .f64 x y)) :
    Calls Try.prog 55 #[.slice A (n + 1) cap, .complex .f64 0 0, .func (.func 56) #[] #[], .func (.func 57) #[] #[.pointer (some ⟨g, 0, none⟩)]] w
      (RC (atFrom (x, y) ps 0).1 (atFrom (x, y) ps 0).2 w) := by
  obtain ⟨b, o, rfl, hb, hcl⟩ := hs.cat (k := n) (by omega)
  have HN := Lib.hid hn
  have HS := Lib.hid hs
  have HL := Lib.hid (atFrom_last (z := (x, y)) hn)
  clear hn hs hb
  go_enter Try.func55, Try.ntmps55
  go_wp2_with (go_at_call 56; refine (at1_any _ _ _).mono ?_; rintro e w' ⟨rfl, rfl⟩)
  clear hcl
  have e0 : ((n : Int) + 1 - 2) = (n : Int) - 1 := by omega
  rw [e0]
  clear e0
  go_loopw [9, 10] (fun s i wr => ∃ (k p q m : Nat), k ≤ n ∧ i = .int .i64 ((k : Int) - 1) ∧ s = .complex .f64 (pick (atFrom (x, y) ps k).1 p) (pick (atFrom (x, y) ps k).2 q) ∧ wr = w.drewN m) (fun _ i _ => (intOf i + 1).toNat)
  case atStart => exact ⟨n, _, _, 0, Nat.le_refl _, rfl, by rw [HL.out, pick_self, pick_self], rfl⟩
  case round =>
    obtain ⟨k, p, q, m, hk, rfl, rfl, rfl⟩ := hrel
    cases k with
    | zero =>
      go_wp2
      go_ret
      exact ⟨_, _, _, rfl, rfl⟩
    | succ k =>
      have hcl : (w.drewN m).cell? ⟨b, o + k, none⟩ = some (.complex .f64 (nth ps k).1 (nth ps k).2) := HS.out.cell (k := k) (by have := HN.out; omega)
      have hg' : (w.drewN m).cell? ⟨g, 0, none⟩ = some (.complex .f64 x y) := hg
      have e1 : (((k + 1 : Nat) : Int) - 1) = (k : Int) := by omega
      rw [e1]
      clear e1
      have HT := Lib.hid (atFrom_step (z := (x, y)) (ps := ps) (k := k) (by have := HN.out; omega))
      go_wp2_with (go_at_call 57; refine (at2_any _ _ _ _ x y g _ hg').mono ?_; rintro e w' ⟨s, t, j, rfl, rfl⟩)
      go_roundw
      case rel => exact ⟨k, s, t, m + j, by omega, rfl, by rw [HT.out]; simp [hornS_pick], rfl⟩
      case measure => simp [intOf]
theorem walk_none (A : Option Addr) (cap : Nat) (f1 f2 : Value) (w : World) :
    Calls Try.prog 55 #[.slice A 0 cap, .complex .f64 0 0, f1, f2] w fun e w' => e = .returned (.complex .f64 0 0) ∧ w = w' := by
  go_enter Try.func55, Try.ntmps55
  go_wp2
  go_ret
  exact ⟨rfl, rfl⟩
/-- A complex number, new memory. -/
def RCB (X Y : Nat) (w : World) (e : Ending) (w' : World) : Prop := ∃ s t, e = .returned (.complex .f64 (pick X s) (pick Y t)) ∧ Below w.heap.size w w'
/-- poly.at. -/
theorem pat_some (A : Option Addr) (n cap : Nat) (ps : List Cc) (hn : ps.length = n + 1) (hm : n + 1 ≤ 9223372036854775807) (x y : Nat) (w : World) (hs : Seq w w.heap.size A (ps.map cv)) :
    Calls Try.prog 34 #[.slice A (n + 1) cap, .complex .f64 x y] w (RCB (atFrom (x, y) ps 0).1 (atFrom (x, y) ps 0).2 w) := by
  have hmf : ∀ (fn : Fn) (first cap : Array Value) (w : World), (Instr.makeFunc fn first cap).run Try.prog w = .ok (.func fn first cap) w := fun _ _ _ _ => rfl
  have HS := Lib.hid hs
  have HN := Lib.hid hn
  clear hs hn
  go_enter Try.func34, Try.ntmps34
  go_wp2_with fail
  refine (walk_some A n cap ps HN.out hm w.heap.size w.heap.size x y _ (HS.out.alloc (Nat.le_refl _) _) (by simp)).mono ?_
  rintro e w' ⟨s, t, m, rfl, rfl⟩
  go_wp2
  go_ret
  exact ⟨_, _, rfl, by repeat (first | exact Below.refl _ _ | refine below_drewN ?_ _ | refine Below.alloc ?_ (by first | omega | (simp; omega) | simp) _ | refine Below.setCell ?_ (by first | omega | (simp; omega) | simp) _ | refine Below.trans ?_ (Below.mono (by assumption) (by first | omega | (simp; omega) | simp)) | apply Below.drew)⟩
theorem pat_none (A : Option Addr) (cap : Nat) (x y : Nat) (w : World) :
    Calls Try.prog 34 #[.slice A 0 cap, .complex .f64 x y] w (RCB 0 0 w) := by
  have hmf : ∀ (fn : Fn) (first cap : Array Value) (w : World), (Instr.makeFunc fn first cap).run Try.prog w = .ok (.func fn first cap) w := fun _ _ _ _ => rfl
  go_enter Try.func34, Try.ntmps34
  go_wp2_with fail
  refine (walk_none A cap _ _ _).mono ?_
  rintro e w' ⟨rfl, rfl⟩
  go_wp2
  go_ret
  exact ⟨0, 0, by rw [pick_of (by decide)]; rfl, by repeat (first | exact Below.refl _ _ | refine below_drewN ?_ _ | refine Below.alloc ?_ (by first | omega | (simp; omega) | simp) _ | refine Below.setCell ?_ (by first | omega | (simp; omega) | simp) _ | refine Below.trans ?_ (Below.mono (by assumption) (by first | omega | (simp; omega) | simp)) | apply Below.drew)⟩
theorem pat_any (A : Option Addr) (n cap : Nat) (ps : List Cc) (hn : ps.length = n) (hm : n ≤ 9223372036854775807) (x y : Nat) (w : World) (hs : Seq w w.heap.size A (ps.map cv)) :
    Calls Try.prog 34 #[.slice A n cap, .complex .f64 x y] w (RCB (atFrom (x, y) ps 0).1 (atFrom (x, y) ps 0).2 w) := by
  cases n with
  | zero =>
    have h0 : ps = [] := List.eq_nil_of_length_eq_zero hn
    subst h0
    exact pat_none A cap x y w
  | succ n => exact pat_some A n cap ps hn hm x y w hs
/-- What At and SlopeAt answer. -/
def RCE (ok : Bool) (X Y : Nat) (w : World) (e : Ending) (w' : World) : Prop :=
  (if ok then ∃ s t, e = .returned (.tuple #[.complex .f64 (pick X s) (pick Y t), .int .i64 0]) else e = .returned (.tuple #[.complex .f64 0 0, .int .i64 2])) ∧ Below w.heap.size w w'
theorem At_any (A : Option Addr) (n cap : Nat) (ps : List Cc) (hn : ps.length = n) (hm : n ≤ 9223372036854775807) (x y : Nat) (w : World) (hs : Seq w w.heap.size A (ps.map cv)) :
    Calls Try.prog 14 #[.slice A n cap, .complex .f64 x y] w (RCE (checkS ps) (atFrom (x, y) ps 0).1 (atFrom (x, y) ps 0).2 w) := by
  have HS := Lib.hid hs
  have HN := Lib.hid hn
  clear hs hn
  unfold RCE
  cases hc : checkS ps
  · go_enter Try.func14, Try.ntmps14
    go_wp2_with fail
    refine (all_one w.heap.size A n cap ps HN.out hm w.heap.size _ (HS.out.alloc (Nat.le_refl _) _) (by simp)).mono ?_
    rintro e w' ⟨rfl, rfl⟩
    rw [hc]
    go_wp2
    go_ret2
    exact ⟨rfl, by repeat (first | exact Below.refl _ _ | refine below_drewN ?_ _ | refine Below.alloc ?_ (by first | omega | (simp; omega) | simp) _ | refine Below.setCell ?_ (by first | omega | (simp; omega) | simp) _ | refine Below.trans ?_ (Below.mono (by assumption) (by first | omega | (simp; omega) | simp)) | apply Below.drew)⟩
  · go_enter Try.func14, Try.ntmps14
    go_wp2_with fail
    refine (all_one w.heap.size A n cap ps HN.out hm w.heap.size _ (HS.out.alloc (Nat.le_refl _) _) (by simp)).mono ?_
    rintro e w' ⟨rfl, rfl⟩
    rw [hc]
    go_wp2_with fail
    refine (pat_any A n cap ps HN.out hm x y _ ((HS.out.alloc (Nat.le_refl _) _).more (by simp))).mono ?_
    rintro e w' ⟨s, t, rfl, hb⟩
    go_wp2
    go_ret2
    exact ⟨⟨_, _, rfl⟩, by repeat (first | exact Below.refl _ _ | refine below_drewN ?_ _ | refine Below.alloc ?_ (by first | omega | (simp; omega) | simp) _ | refine Below.setCell ?_ (by first | omega | (simp; omega) | simp) _ | refine Below.trans ?_ (Below.mono (by assumption) (by first | omega | (simp; omega) | simp)) | apply Below.drew)⟩
end Go.Proofs.Ytmcihnpghcdnmaa
