/- poly.all of two, place, cut, Of. -/
import Derived.Test.YtbgjcpnbdgljbaaGreatDoorMExb
import Derived.Deep.AppendSrc
namespace Go
/-- append onto nil, of whatever lies in a slice: a new row of the call's own. -/
theorem run_append_new {P : Program} (w : World) (t tx ty e : TypeId) (i : TypeInfo) (z : Value) (size bytes : Nat) (ht : P.underlying t = some (.slice e)) (hi : P.info? e = some i) (hz : i.zero = some z) (hsize : i.size = size) (hby : i.bytes = bytes) (hzs : z.cells.size = size)
    (x : Value) (m : Nat) (news : List Value) (hs : Src P size tx x m news w) (hm : m ≤ 1000000) (hb : bytes ≤ 1000000) :
    ∃ v' w', (Builtin.append_ #[t, tx] ty #[.slice none 0 0, x]).run P w = .ok v' w' ∧ w'.ownsRow w.heap.size e size v' m news ∧ w.grownBy w' none := by
  subst hsize
  subst hby
  have hl := hs.newsLen
  have hbytes : m * i.bytes ≤ 1000000 * 1000000 := Nat.mul_le_mul hm hb
  by_cases h0 : m = 0
  · subst h0
    have hn : news = [] := List.eq_nil_of_length_eq_zero (by simpa using hl)
    subst hn
    refine ⟨.slice none 0 0, w, ?_, World.ownsRow_nil w _ e i.size, ⟨rfl, rfl, rfl, Nat.le_refl _, fun _ _ _ => rfl⟩⟩
    have hc := hs.cells
    rcases hs.kind with ⟨e', hk⟩ | hk <;> simp [Builtin.append_, run_underlying ht, run_underlying hk, sizeOf, typeInfo, hi, hs.len, hc]
  · have hr := run_append_grow_src (P := P) w t tx ty e i z ht hi hz none 0 0 [] (run_firstCells_none w.drew i.size 0 0 0) x m news hs (by omega) (by omega) (growslice_fits (by omega) (by rw [Nat.zero_add]; omega))
    have hge := grownCap_ge w (0 + m) 0 e
    have hcm : grownCap w (0 + m) 0 e ≤ maxLen := grownCap_le_maxLen w (0 + m) 0 e (by unfold maxLen; omega)
    rw [Nat.zero_add] at hr hge hcm
    generalize grownCap w m 0 e = c at hr hge hcm
    refine ⟨_, _, hr, ⟨hl, .inr ⟨w.heap.size, c, _, rfl, Nat.le_refl _, heap_alloc_new w.drew _, hge, hcm, ?_, ?_⟩⟩, ⟨rfl, rfl, rfl, by simp, fun k hk _ => heap_alloc_old w.drew _ hk⟩⟩
    · simp only [List.nil_append, Array.size_append, List.size_toArray, size_zeroCells, hzs, hl, ← Nat.add_mul]
      congr 1
      omega
    · simp only [List.nil_append, Array.toList_append]
      rw [← hl]
      exact List.take_left
theorem wpList_append_new {P : Program} (w : World) {ops : Array Oper} {rest : List Oper} {o : Oper} {a : Act} {Q : Exit → Act → World → Prop} (hgd : o.guard = none) (s x : Operand) (t tx : TypeId)
    (ho : o.op = .call { callee := .builtin .append, args := #[s, x], argTypes := #[t, tx] })
    (e : TypeId) (i : TypeInfo) (z : Value) (size bytes : Nat) (ht : P.underlying t = some (.slice e)) (hi : P.info? e = some i) (hz : i.zero = some z) (hsize : i.size = size) (hby : i.bytes = bytes) (hzs : z.cells.size = size)
    (hs : a.eval s = .slice none 0 0) (xv : Value) (hx : a.eval x = xv) (m : Nat) (news : List Value) (hsrc : Src P size tx xv m news w) (hm : m ≤ 1000000) (hb : bytes ≤ 1000000)
    (h : ∀ v' w', w'.ownsRow w.heap.size e size v' m news → w.grownBy w' none → wpList P ops Q rest (a.put o.dst v') w') : wpList P ops Q (o :: rest) a w := by
  refine wpList_plain hgd fun K hK => ?_
  obtain ⟨v', w', hr, h2, h3⟩ := run_append_new (P := P) w t tx o.type e i z size bytes ht hi hz hsize hby hzs xv m news hsrc hm hb
  unfold Oper.wp execOp
  simp only [ho, resolve, invoke, builtin, Sem.run_bind, Sem.run_pure, Result.andThen_ok, List.map_toArray, List.map_cons, List.map_nil, hs, hx, hr]
  exact hK _ _ (h v' w' h2 h3)
end Go
namespace Go.Proofs.YtbgjcpnbdgljbaaGreatDoor
open Go.RowKit Go.Fil Go.Shelf
attribute [local irreducible] fop fsqrt fup fabs fneg pick

theorem place_in (b o : Nat) (n cap k : Nat) (ps : List Cc) (hn : ps.length = n) (hk : k < n) (B : Nat) (w : World) (hs : Seq w B (some ⟨b, o, none⟩) (ps.map cv)) :
    Calls Tryz.prog 39 #[.slice (some ⟨b, o, none⟩) n cap, .int .i64 k] w fun e w' => e = .returned (.complex .f64 (nth ps k).1 (nth ps k).2) ∧ w = w' := by
  have hcl := hs.cell (k := k) (by omega)
  have h0 : ¬ (k : Int) < 0 := by omega
  have h1 : ¬ (n : Int) ≤ (k : Int) := by omega
  clear hs hn
  go_enter Tryz.func39, Tryz.ntmps39
  go_wp2
  go_ret
  exact ⟨rfl, rfl⟩
theorem place_out (A : Option Addr) (n cap k : Nat) (hk : n ≤ k) (hm : k ≤ 1000000) (w : World) :
    Calls Tryz.prog 39 #[.slice A n cap, .int .i64 k] w fun e w' => e = .returned (.complex .f64 0 0) ∧ w = w' := by
  have h0 : ¬ (k : Int) < 0 := by omega
  have h1 : (n : Int) ≤ (k : Int) := by omega
  go_enter Tryz.func39, Tryz.ntmps39
  go_wp2
  go_ret
  exact ⟨rfl, rfl⟩
theorem place_any (A : Option Addr) (n cap k : Nat) (ps : List Cc) (hn : ps.length = n) (hk : k ≤ 1000) (B : Nat) (w : World) (hs : Seq w B A (ps.map cv)) :
    Calls Tryz.prog 39 #[.slice A n cap, .int .i64 k] w fun e w' => e = .returned (.complex .f64 (nth ps k).1 (nth ps k).2) ∧ w = w' := by
  rcases Nat.lt_or_ge k n with h | h
  · obtain ⟨b, o, rfl, _⟩ := hs.cat (k := k) (by omega)
    exact place_in b o n cap k ps hn h B w hs
  · have e : nth ps k = (0, 0) := by unfold nth; rw [List.getD_eq_getElem?_getD, List.getElem?_eq_none (by omega)]; rfl
    rw [e]
    exact place_out A n cap k h (by omega) w
/-- poly.all of two polynomials. -/
theorem all_two (g : Nat) (A1 A2 : Option Addr) (n1 c1 n2 c2 : Nat) (ps qs : List Cc) (hn1 : ps.length = n1) (hn2 : qs.length = n2) (h1 : n1 ≤ 1000) (h2 : n2 ≤ 1000) (k1 : checkS ps = true) (k2 : checkS qs = true) (B : Nat) (w : World) (hs1 : Seq w B A1 (ps.map cv)) (hs2 : Seq w B A2 (qs.map cv)) (hg : w.cell? ⟨g, 0, none⟩ = some (.slice A1 n1 c1)) (hg2 : w.cell? ⟨g, 1, none⟩ = some (.slice A2 n2 c2)) :
    Calls Tryz.prog 34 #[.slice (some ⟨g, 0, none⟩) 2 2] w fun e w' => e = .returned (.bool true) ∧ w = w' := by
  have hc1 := check_any A1 n1 c1 ps hn1 (by omega) B w hs1
  have hc2 := check_any A2 n2 c2 qs hn2 (by omega) B w hs2
  rw [k1] at hc1
  rw [k2] at hc2
  have HC1 := Lib.hid hc1
  have HC2 := Lib.hid hc2
  clear hc1 hc2 hs1 hs2 hn1 hn2 k1 k2
  go_enter Tryz.func34, Tryz.ntmps34
  go_wp2
  refine wp_loop_rounds 3 ?_
  rw [rounds_succ]
  go_wp2_with (go_at_call 82; refine HC1.out.mono ?_; rintro e w' ⟨rfl, rfl⟩; unfold errS)
  rw [rounds_succ]
  go_wp2_with (go_at_call 82; refine HC2.out.mono ?_; rintro e w' ⟨rfl, rfl⟩; unfold errS)
  rw [rounds_succ]
  go_wp2
  go_ret
  exact ⟨rfl, rfl⟩
end Go.Proofs.YtbgjcpnbdgljbaaGreatDoor

/- poly.cut, Of. -/
namespace Go.Proofs.YtbgjcpnbdgljbaaGreatDoor
open Go.RowKit Go.Fil Go.Shelf
attribute [local irreducible] fop fsqrt fup fabs fneg pick

/-- The place where a list's noughts at its end begin. -/
structure CutAt (ps : List Cc) (m : Nat) : Prop where
  le : m ≤ ps.length
  z : ∀ k, m ≤ k → k < ps.length → czeroC (nth ps k) = true
  last : m = 0 ∨ czeroC (nth ps (m - 1)) = false
/-- What cut answers. -/
def RCut (ps : List Cc) (w : World) (en : Ending) (w' : World) : Prop := ∃ v m, CutAt ps m ∧ en = .returned (.tuple #[v, .int .i64 0]) ∧ w'.ownsRow w.heap.size 41 1 v m ((ps.take m).map cv) ∧ Below w.heap.size w w'
theorem take_cells {w : World} {B b o : Nat} {ps : List Cc} (h : Seq w B (some ⟨b, o, none⟩) (ps.map cv)) (m : Nat) : ∀ j u, ((ps.take m).map cv)[j]? = some u → w.cell? ((⟨b, o, none⟩ : Addr).add j) = some u := by
  intro j u hj
  have hj2 : (ps.map cv)[j]? = some u := by
    rw [List.getElem?_map, List.getElem?_take] at hj
    rw [List.getElem?_map]
    split at hj
    · exact hj
    · simp at hj
  rcases h with h | ⟨b', o', hA, _, hc⟩
  · rw [h] at hj2; simp at hj2
  · injection hA with hA
    injection hA with h1 h2
    subst h1; subst h2
    rw [Addr.add_lit]
    exact hc j u hj2
set_option maxRecDepth 100000 in
set_option maxHeartbeats 1600000 in
theorem pcut_any (A : Option Addr) (n cap : Nat) (ps : List Cc) (hn : ps.length = n) (hle : n ≤ 1000) (hcap : n ≤ cap) (hf : allfin ps = true) (w : World) (hs : Seq w w.heap.size A (ps.map cv)) :
    Calls Tryz.prog 40 #[.slice A n cap] w (RCut ps w) := by
  obtain ⟨i0, hi, hz0, hz1, hz2⟩ := info_parts Tryz.infoC
  have hfin : ∀ k, k < n → cfin (nth ps k).1 (nth ps k).2 = true := by
    intro k hk
    unfold allfin at hf
    rw [List.all_eq_true] at hf
    rw [nth_eq (by omega)]
    exact hf _ (List.getElem_mem _)
  have HF := Lib.hid hfin
  have HN := Lib.hid hn
  have HS := Lib.hid hs
  clear hs hn hf hfin
  unfold RCut
  go_enter Tryz.func40, Tryz.ntmps40
  go_wp2
  go_loop [9] (fun i => ∃ k : Nat, k ≤ n ∧ i = .int .i64 k) (fun i => n - (intOf i).toNat)
  case atStart => exact ⟨0, by omega, rfl⟩
  case round =>
    obtain ⟨k, hk, rfl⟩ := hrel
    by_cases hlt : k < n
    · obtain ⟨b, o, rfl, hb, hcl⟩ := HS.out.cat (k := k) (by have := HN.out; omega)
      have hfk := HF.out k hlt
      go_wp2_with (first
        | (go_at_call 52; refine (pfinite_any _ _ _).mono ?_; rintro e w' ⟨rfl, rfl⟩))
      go_round
      case rel => exact ⟨k + 1, by omega, by go_num⟩
      case measure => simp [intOf]; omega
    · obtain rfl : k = n := by omega
      go_wp2
      go_loop [6] (fun i => ∃ m : Nat, m ≤ k ∧ i = .int .i64 m ∧ ∀ j, m ≤ j → j < k → czeroC (nth ps j) = true) (fun i => (intOf i).toNat)
      case atStart => exact ⟨k, Nat.le_refl _, rfl, fun j h1 h2 => absurd h2 (by omega)⟩
      case round =>
        obtain ⟨m, hm, rfl, hz⟩ := hrel
        by_cases h0 : m = 0
        · subst h0
          rcases A with _ | a
          · go_wp2_with (first
              | (at_builtin; refine wpList_append_new _ rfl _ _ 25 24 rfl 41 i0 (.complex .f64 0 0) 1 16 Tryz.underlying25 hi hz0 hz1 hz2 rfl rfl _ rfl 0 ((ps.take 0).map cv) (by rw [List.take_zero]; exact Src.ofNil _ Tryz.underlying24 _) (by omega) (by decide) ?_))
            intro v' w1 hown hgrow
            go_wp2
            exact bodyPost_ret (v := .tuple #[v', .int .i64 0]) (by simp [results, Tryz.results40, go_sem]) rfl ⟨v', 0, ⟨by omega, fun j h1 h2 => hz j h1 (by have := HN.out; omega), .inl rfl⟩, rfl, hown, (Below.refl _ w).grown hgrow (Nat.le_refl _) (by intro q hq; cases hq)⟩
          · go_wp2_with (first
              | (at_builtin; refine wpList_append_new _ rfl _ _ 25 24 rfl 41 i0 (.complex .f64 0 0) 1 16 Tryz.underlying25 hi hz0 hz1 hz2 rfl rfl _ rfl 0 ((ps.take 0).map cv) (by rw [List.take_zero]; exact Src.ofSlice _ Tryz.underlying24 _ _ _ _ rfl (fun j u h => by simp at h) (fun u h => by simp at h)) (by omega) (by decide) ?_))
            intro v' w1 hown hgrow
            go_wp2
            exact bodyPost_ret (v := .tuple #[v', .int .i64 0]) (by simp [results, Tryz.results40, go_sem]) rfl ⟨v', 0, ⟨by omega, fun j h1 h2 => hz j h1 (by have := HN.out; omega), .inl rfl⟩, rfl, hown, (Below.refl _ w).grown hgrow (Nat.le_refl _) (by intro q hq; cases hq)⟩
        · obtain ⟨b, o, rfl, hb, hcl⟩ := HS.out.cat (k := m - 1) (by have := HN.out; omega)
          cases hcz : czero (nth ps (m - 1)).1 (nth ps (m - 1)).2
          · go_wp2_with (first
              | (go_at_call 87; refine (pzero_any _ _ _).mono ?_; rintro e w' ⟨rfl, rfl⟩)
              | (at_builtin; refine wpList_append_new _ rfl _ _ 25 24 rfl 41 i0 (.complex .f64 0 0) 1 16 Tryz.underlying25 hi hz0 hz1 hz2 rfl rfl _ rfl m ((ps.take m).map cv) (Src.ofSlice _ Tryz.underlying24 _ _ _ _ (by have := HN.out; simp; omega) (take_cells HS.out _) (fun u h => by obtain ⟨x, _, rfl⟩ := List.mem_map.1 h; rfl)) (by omega) (by decide) ?_))
            intro v' w1 hown hgrow
            go_wp2
            exact bodyPost_ret (v := .tuple #[v', .int .i64 0]) (by simp [results, Tryz.results40, go_sem]) rfl ⟨v', m, ⟨by have := HN.out; omega, fun j h1 h2 => hz j h1 (by have := HN.out; omega), .inr hcz⟩, rfl, by rw [List.map_take]; exact hown, (Below.refl _ w).grown hgrow (Nat.le_refl _) (by intro q hq; cases hq)⟩
          · go_wp2_with (go_at_call 87; refine (pzero_any _ _ _).mono ?_; rintro e w' ⟨rfl, rfl⟩)
            go_round
            case rel => exact ⟨m - 1, by omega, by go_num, fun j h1 h2 => by
              rcases Nat.lt_or_ge j m with h | h
              · have : j = m - 1 := by omega
                subst this; exact hcz
              · exact hz j h h2⟩
            case measure => simp [intOf]; omega
theorem pOf_any (A : Option Addr) (n cap : Nat) (ps : List Cc) (hn : ps.length = n) (hle : n ≤ 17) (hcap : n ≤ cap) (hf : allfin ps = true) (w : World) (hs : Seq w w.heap.size A (ps.map cv)) :
    Calls Tryz.prog 32 #[.slice A n cap] w (RCut ps w) := by
  have HC := Lib.hid (pcut_any A n cap ps hn (by omega) hcap hf w hs)
  have HN := Lib.hid hn
  clear hn hs hf
  unfold RCut at HC ⊢
  go_enter Tryz.func32, Tryz.ntmps32
  go_wp2_with fail
  refine HC.out.mono ?_
  rintro e w1 ⟨v, m, hm, rfl, hown, hb⟩
  obtain ⟨A1, c1, rfl, _⟩ := seq_of_own hown
  have hle := hm.le
  have h17 : ¬ (17 : Int) < (m : Int) := by have := HN.out; omega
  go_wp2
  exact bodyPost_ret (v := .tuple #[.slice A1 m c1, .int .i64 0]) (by simp [results, Tryz.results32, go_sem]) rfl ⟨_, m, hm, rfl, hown, hb⟩
end Go.Proofs.YtbgjcpnbdgljbaaGreatDoor

/- poly.Add at whole numbers. -/
namespace Go.Proofs.YtbgjcpnbdgljbaaGreatDoor
open Go.RowKit Go.Fil Go.Shelf
attribute [local irreducible] fop fsqrt fup fabs fneg pick mulRe mulIm

/-- A call whose answer is a whole complex number by floats. -/
def RCz (a : Zi) (w : World) (e : Ending) (w' : World) : Prop := ∃ (c : Cc) (n : Nat), e = .returned (.complex .f64 c.1 c.2) ∧ FC c a ∧ w.drewN n = w'
theorem cadd_z {c d : Cc} {a b : Zi} (hc : FC c a) (hd : FC d b) (h : zn a + zn b < 9007199254740992) (w : World) : Calls Tryz.prog 38 #[.complex .f64 c.1 c.2, .complex .f64 d.1 d.2] w (RCz (zadd a b) w) := by
  refine (cadd_any _ _ _ _ _).mono ?_
  rintro e w' ⟨s, t, n, rfl, rfl⟩
  have hf := FC.add hc hd h
  exact ⟨_, n, by rw [FI.pick hf.1, FI.pick hf.2], hf, rfl⟩
theorem cmul_z {c d : Cc} {a b : Zi} (hc : FC c a) (hd : FC d b) (h : zn a * zn b < 9007199254740992) (w : World) : Calls Tryz.prog 45 #[.complex .f64 c.1 c.2, .complex .f64 d.1 d.2] w (RCz (zmul a b) w) := by
  refine (cmul_any _ _ _ _ _).mono ?_
  rintro e w' ⟨s, t, n, rfl, rfl⟩
  have hf := FC.mul hc hd h
  exact ⟨_, n, by rw [FI.pick hf.1, FI.pick hf.2], hf, rfl⟩
/-- What is left of a list of whole numbers when the noughts at its end are cut. -/
structure ZCut (l : List Zi) (m : Nat) : Prop where
  le : m ≤ l.length
  z : ∀ k, m ≤ k → zpl l k = z0
  last : m = 0 ∨ nthZ l (m - 1) ≠ z0
/-- What a function that makes a polynomial of whole numbers answers. -/
def RPz (l : List Zi) (w : World) (en : Ending) (w' : World) : Prop := ∃ v rs m, ZCut l m ∧ FCs rs (l.take m) ∧ en = .returned (.tuple #[v, .int .i64 0]) ∧ w'.ownsRow w.heap.size 41 1 v m (rs.map cv) ∧ Below w.heap.size w w'
theorem nthZ_take {l : List Zi} {m k : Nat} (h : k < m) : nthZ (l.take m) k = nthZ l k := by
  unfold nthZ; rw [List.getD_eq_getElem?_getD, List.getD_eq_getElem?_getD, List.getElem?_take, if_pos h]
theorem nth_take {ps : List Cc} {m k : Nat} (h : k < m) : nth (ps.take m) k = nth ps k := by
  unfold nth; rw [List.getD_eq_getElem?_getD, List.getD_eq_getElem?_getD, List.getElem?_take, if_pos h]
theorem FCs.take {ps : List Cc} {l : List Zi} (h : FCs ps l) (m : Nat) : FCs (ps.take m) (l.take m) := by
  refine ⟨by rw [List.length_take, List.length_take, h.1], fun k hk => ?_⟩
  rw [List.length_take] at hk
  rw [nth_take (by omega), nthZ_take (by omega)]
  exact h.2 k (by omega)
theorem FCs.fin {ps : List Cc} {l : List Zi} (h : FCs ps l) : allfin ps = true := by
  unfold allfin
  rw [List.all_eq_true]
  intro c hc
  obtain ⟨k, hk, rfl⟩ := List.getElem_of_mem hc
  have := (h.2 k (by rw [← h.1]; exact hk)).fin
  rwa [nth_eq hk] at this
theorem FCs.check {ps : List Cc} {l : List Zi} (h : FCs ps l) (h17 : l.length ≤ 17) (hl : l.length = 0 ∨ nthZ l (l.length - 1) ≠ z0) : checkS ps = true := by
  unfold checkS lastzero czeroC
  rw [h.fin, h.1]
  rcases hl with h0 | h0
  · rw [h0]; rfl
  · rcases Nat.eq_zero_or_pos l.length with hz | hz
    · rw [hz]; rfl
    · rw [(h.2 (l.length - 1) (by omega)).zero, decide_eq_false h0, decide_eq_true h17]; simp
theorem ZCut.of {ps : List Cc} {l : List Zi} {m : Nat} (h : FCs ps l) (hc : CutAt ps m) : ZCut l m := by
  have h1 := hc.le
  have h2 := h.1
  refine ⟨by omega, fun k hk => ?_, ?_⟩
  · rcases Nat.lt_or_ge k l.length with h3 | h3
    · have h4 := hc.z k hk (by omega)
      unfold czeroC at h4
      rw [(h.2 k h3).zero] at h4
      exact of_decide_eq_true h4
    · unfold zpl; rw [List.getD_eq_getElem?_getD, List.getElem?_eq_none (by omega)]; rfl
  · rcases hc.last with h3 | h3
    · exact .inl h3
    · rcases Nat.eq_zero_or_pos m with h5 | h5
      · exact .inl h5
      · unfold czeroC at h3
        rw [(h.2 (m - 1) (by omega)).zero] at h3
        exact .inr (of_decide_eq_false h3)
theorem RPz.of {ps : List Cc} {l : List Zi} (h : FCs ps l) {w : World} {en : Ending} {w' : World} (hr : RCut ps w en w') : RPz l w en w' := by
  obtain ⟨v, m, hc, he, hown, hb⟩ := hr
  exact ⟨v, ps.take m, m, ZCut.of h hc, h.take m, he, hown, hb⟩
theorem FCs.snoc {ps : List Cc} {l : List Zi} {c : Cc} {a : Zi} (h : FCs ps l) (hc : FC c a) : FCs (ps ++ [c]) (l ++ [a]) := by
  refine ⟨by rw [List.length_append, List.length_append, h.1]; rfl, fun k hk => ?_⟩
  have h1 := h.1
  rw [List.length_append] at hk
  unfold nth nthZ
  rw [List.getD_eq_getElem?_getD, List.getD_eq_getElem?_getD]
  rcases Nat.lt_or_ge k l.length with h2 | h2
  · rw [List.getElem?_append_left (by omega), List.getElem?_append_left h2]
    have := h.2 k h2
    unfold nth nthZ at this
    rw [List.getD_eq_getElem?_getD, List.getD_eq_getElem?_getD] at this
    exact this
  · have h3 : k = l.length := by simp at hk; omega
    subst h3
    rw [List.getElem?_append_right (by omega), List.getElem?_append_right (by omega), h1, Nat.sub_self]
    exact hc
theorem FCs.nil : FCs [] [] := ⟨rfl, fun _ h => absurd h (Nat.not_lt_zero _)⟩
theorem FCs.at {ps : List Cc} {l : List Zi} (h : FCs ps l) (k : Nat) : FC (nth ps k) (zpl l k) := by
  rcases Nat.lt_or_ge k l.length with h1 | h1
  · exact h.2 k h1
  · unfold nth zpl
    rw [List.getD_eq_getElem?_getD, List.getD_eq_getElem?_getD, List.getElem?_eq_none (by have := h.1; omega), List.getElem?_eq_none h1]
    exact FC.z0
theorem own_cap {w : World} {base e size n m cap : Nat} {A : Option Addr} {xs : List Value} (h : w.ownsRow base e size (.slice A n cap) m xs) : n ≤ cap := by
  rcases h.2 with ⟨he, _⟩ | ⟨g, c, cur, he, _, _, h1, _⟩
  · injection he with _ h1 h2; omega
  · injection he with _ h2 h3; omega
theorem own_base {w : World} {base base' e size m : Nat} {v : Value} {xs : List Value} (h : w.ownsRow base e size v m xs) (hb : base' ≤ base) : w.ownsRow base' e size v m xs := by
  refine ⟨h.1, ?_⟩
  rcases h.2 with h1 | ⟨g, c, cur, he, h2, h3⟩
  · exact .inl h1
  · exact .inr ⟨g, c, cur, he, Nat.le_trans hb h2, h3⟩
/-- The sum's coefficients. -/
def zsums (p q : List Zi) (k : Nat) : List Zi := (List.range k).map fun j => zadd (zpl p j) (zpl q j)
theorem zsums_length (p q : List Zi) (k : Nat) : (zsums p q k).length = k := by simp [zsums]
theorem zsums_next (p q : List Zi) (k : Nat) : zsums p q (k + 1) = zsums p q k ++ [zadd (zpl p k) (zpl q k)] := by
  unfold zsums; rw [List.range_succ, List.map_append]; rfl
set_option maxRecDepth 100000 in
set_option maxHeartbeats 1600000 in
theorem pAdd_any (A1 A2 : Option Addr) (n1 c1 n2 c2 : Nat) (ps qs : List Cc) (p q : List Zi) (hn1 : p.length = n1) (hn2 : q.length = n2) (h1 : n1 ≤ 17) (h2 : n2 ≤ 17) (hp : FCs ps p) (hq : FCs qs q) (k1 : checkS ps = true) (k2 : checkS qs = true)
    (hzp : ∀ k, zn (zpl p k) ≤ 1000000) (hzq : ∀ k, zn (zpl q k) ≤ 1000000) (w : World) (hs1 : Seq w w.heap.size A1 (ps.map cv)) (hs2 : Seq w w.heap.size A2 (qs.map cv)) :
    Calls Tryz.prog 12 #[.slice A1 n1 c1, .slice A2 n2 c2] w (RPz (zsums p q (max n1 n2)) w) := by
  obtain ⟨i0, hi, hz0, hz1, hz2⟩ := info_parts Tryz.infoC
  have HS1 := Lib.hid hs1
  have HS2 := Lib.hid hs2
  have HP := Lib.hid hp
  have HQ := Lib.hid hq
  have HN1 := Lib.hid (hp.1.trans hn1)
  have HN2 := Lib.hid (hq.1.trans hn2)
  have HZP := Lib.hid hzp
  have HZQ := Lib.hid hzq
  clear hs1 hs2 hp hq hn1 hn2 hzp hzq
  go_enter Tryz.func12, Tryz.ntmps12
  go_wp2_with fail
  refine Calls.mono (all_two w.heap.size A1 A2 n1 c1 n2 c2 ps qs HN1.out HN2.out (by omega) (by omega) k1 k2 w.heap.size _ ?hs1 ?hs2 ?hg1 ?hg2) ?k
  case hs1 => exact HS1.out.below (B' := w.heap.size) (by repeat (first | exact Below.refl _ _ | refine below_drewN ?_ _ | refine Below.alloc ?_ (by first | omega | (simp; omega) | simp) _ | refine Below.setCell ?_ (by first | omega | (simp; omega) | simp) _ | refine Below.trans ?_ (Below.mono (by assumption) (by first | omega | (simp; omega) | simp)) | apply Below.drew)) (Nat.le_refl _)
  case hs2 => exact HS2.out.below (B' := w.heap.size) (by repeat (first | exact Below.refl _ _ | refine below_drewN ?_ _ | refine Below.alloc ?_ (by first | omega | (simp; omega) | simp) _ | refine Below.setCell ?_ (by first | omega | (simp; omega) | simp) _ | refine Below.trans ?_ (Below.mono (by assumption) (by first | omega | (simp; omega) | simp)) | apply Below.drew)) (Nat.le_refl _)
  case hg1 => rw [World.cell?_alloc_at _ _ _ _ (by simp)]; rfl
  case hg2 => rw [World.cell?_alloc_at _ _ _ _ (by simp)]; rfl
  rintro e w' ⟨rfl, rfl⟩
  clear k1 k2
  go_wp2
  have eN : (max (n1 : Int) (n2 : Int)) = ((max n1 n2 : Nat) : Int) := by omega
  have hN : max n1 n2 ≤ 17 := by omega
  rw [eN]
  clear eN
  generalize max n1 n2 = N at *
  go_loopw [6, 18] (fun v i wr => ∃ (k : Nat) (rs : List Cc), k ≤ N ∧ i = .int .i64 k ∧ FCs rs (zsums p q k) ∧ wr.ownsRow w.heap.size 41 1 v k (rs.map cv) ∧ Below w.heap.size w wr) (fun _ i _ => N - (intOf i).toNat)
  case atStart => exact ⟨0, [], Nat.zero_le _, rfl, FCs.nil, World.ownsRow_nil _ _ _ _, by repeat (first | exact Below.refl _ _ | refine below_drewN ?_ _ | refine Below.alloc ?_ (by first | omega | (simp; omega) | simp) _ | refine Below.setCell ?_ (by first | omega | (simp; omega) | simp) _ | refine Below.trans ?_ (Below.mono (by assumption) (by first | omega | (simp; omega) | simp)) | apply Below.drew)⟩
  case round =>
    obtain ⟨k, rs, hk, rfl, hrs, hown, hnx⟩ := hrel
    by_cases hlt : k < N
    · have HB := Lib.hid hnx
      have HF := Lib.hid hrs
      clear hrs hnx
      have HPL1 := Lib.hid (place_any A1 n1 c1 k ps HN1.out (by omega) _ wr (HS1.out.below HB.out (Nat.le_refl _)))
      have HPL2 := Lib.hid (place_any A2 n2 c2 k qs HN2.out (by omega) _ wr (HS2.out.below HB.out (Nat.le_refl _)))
      have HADD := Lib.hid (cadd_z (HP.out.at k) (HQ.out.at k) (by have := HZP.out k; have := HZQ.out k; omega) wr)
      go_wp2_with (first
        | (go_at_call 39; (first | with_reducible refine HPL1.out.mono ?_ | with_reducible refine HPL2.out.mono ?_); rintro e w' ⟨rfl, rfl⟩))
      with_reducible refine HADD.out.mono ?_
      rintro e w' ⟨c, j, rfl, hc, rfl⟩
      go_wp2_with (first
        | (at_builtin; refine wpList_append_own _ rfl _ _ 24 rfl w.heap.size 41 i0 (.complex .f64 0 0) 1 16 Tryz.underlying24 hi hz0 hz1 hz2 rfl (by decide) _ _ _ rfl ((own_drewN hown j).alloc _) ⟨wr.heap.size, 0, none⟩ 1 1 [.complex .f64 c.1 c.2] rfl rfl ?c1 ?c2 ?c3 ?c4 ?c5 ?_))
      case c1 => exact cell_one_new (wr.drewN j) _ _
      case c2 => intro u hu; simp at hu; subst hu; rfl
      case c3 => unfold maxLen; omega
      case c4 => omega
      case c5 => have := HB.out.size; simp; omega
      intro v' w2 hown' hgrow _
      have hnx' : Below w.heap.size w w2 := ((below_drewN HB.out j).alloc (by have := HB.out.size; simp; omega) _).grown hgrow (by have := HB.out.size; simp; omega) (fun q hq => (hown.lt q hq).1)
      have hown2 : w2.ownsRow w.heap.size 41 1 v' (k + 1) ((rs ++ [c]).map cv) := by
        rw [List.map_append]
        exact hown'
      have hrs2 : FCs (rs ++ [c]) (zsums p q (k + 1)) := by rw [zsums_next]; exact HF.out.snoc hc
      clear hown' hgrow hown
      go_wp2
      go_roundw
      case rel => exact ⟨k + 1, _, by omega, by go_num, hrs2, hown2, hnx'⟩
      case measure => simp [intOf]; omega
    · obtain rfl : k = N := by omega
      obtain ⟨A3, c3, rfl, hs3⟩ := seq_of_own hown
      have hl : rs.length = k := by rw [hrs.1, zsums_length]
      have hcap : k ≤ c3 := own_cap hown
      have HC := Lib.hid (pcut_any A3 k c3 rs hl (by omega) hcap hrs.fin wr hs3)
      have HR := Lib.hid (fun e w' h => RPz.of hrs (w := wr) (en := e) (w' := w') h)
      have HB := Lib.hid hnx
      clear hrs hown hs3 hnx
      go_wp2_with fail
      refine HC.out.mono ?_
      intro e w' hr
      obtain ⟨v, rs', m, hm, hf, rfl, hown, hb⟩ := HR.out e w' hr
      go_wp2
      have hbw : Below w.heap.size w w' := HB.out.trans (hb.mono HB.out.size)
      exact bodyPost_ret (v := .tuple #[v, .int .i64 0]) (by simp [results, Tryz.results12, go_sem]) rfl ⟨v, rs', m, hm, hf, rfl, own_base hown HB.out.size, hbw⟩
end Go.Proofs.YtbgjcpnbdgljbaaGreatDoor

/- cplx.Sum at whole numbers. -/
namespace Go.Proofs.YtbgjcpnbdgljbaaGreatDoor
open Go.RowKit Go.Fil Go.Shelf
attribute [local irreducible] fop fsqrt fup fabs fneg pick mulRe mulIm

/-- The sum of a list, from the left. -/
def zsum (l : List Zi) : Zi := l.foldl zadd z0
theorem zsum_next {l : List Zi} {k : Nat} (hk : k < l.length) : zsum (l.take (k + 1)) = zadd (zsum (l.take k)) (nthZ l k) := by
  unfold zsum
  rw [List.take_succ_eq_append_getElem hk, List.foldl_append, ← nthZ_eq hk]; rfl
theorem zn_zsum {l : List Zi} {C : Nat} (h : ∀ k, k < l.length → zn (nthZ l k) ≤ C) (k : Nat) (hk : k ≤ l.length) : zn (zsum (l.take k)) ≤ k * C := by
  induction k with
  | zero => rw [List.take_zero]; exact Nat.zero_le _
  | succ k ih =>
    rw [zsum_next (by omega), Nat.succ_mul]
    have h1 := zn_add (zsum (l.take k)) (nthZ l k)
    have h2 := h k (by omega)
    have h3 := ih (by omega)
    omega
set_option maxRecDepth 100000 in
set_option maxHeartbeats 1600000 in
theorem csum_any (A : Option Addr) (n cap : Nat) (rs : List Cc) (l : List Zi) (hn : l.length = n) (h1 : n ≤ 17) (hf : FCs rs l) (hz : ∀ k, k < l.length → zn (nthZ l k) ≤ 1000000) (B : Nat) (w : World) (hs : Seq w B A (rs.map cv)) :
    Calls Tryz.prog 46 #[.slice A n cap] w (RCz (zsum l) w) := by
  have HS := Lib.hid hs
  have HF := Lib.hid hf
  have HN := Lib.hid hn
  have HZ := Lib.hid hz
  have HZS := Lib.hid (zn_zsum hz)
  clear hs hf hn hz
  go_enter Tryz.func46, Tryz.ntmps46
  go_wp2
  go_loopw [3, 8] (fun z i wr => ∃ (k j : Nat) (c : Cc), k ≤ n ∧ i = .int .i64 k ∧ z = .complex .f64 c.1 c.2 ∧ FC c (zsum (l.take k)) ∧ wr = w.drewN j) (fun _ i _ => n - (intOf i).toNat)
  case atStart => exact ⟨0, 0, (0, 0), Nat.zero_le _, rfl, rfl, FC.z0, rfl⟩
  case round =>
    obtain ⟨k, j, c, hk, rfl, rfl, hc, rfl⟩ := hrel
    by_cases hlt : k < n
    · obtain ⟨b, o, rfl, hb, hcl⟩ := (HS.out.drewN j).cat (k := k) (by have := HN.out; have := HF.out.1; omega)
      have HADD := Lib.hid (cadd_z hc (HF.out.2 k (by have := HN.out; omega)) (by have := HZS.out k (by have := HN.out; omega); have := HZ.out k (by have := HN.out; omega); omega) (w.drewN j))
      rw [← zsum_next (by have := HN.out; omega)] at HADD
      clear hc
      go_wp2_with fail
      with_reducible refine HADD.out.mono ?_
      rintro e w' ⟨c', j', rfl, hc', rfl⟩
      go_wp2
      go_roundw
      case rel => exact ⟨k + 1, j + j', c', by omega, by go_num, rfl, hc', by first | rfl | (simp [World.drewN, Nat.add_assoc])⟩
      case measure => simp [intOf]; omega
    · obtain rfl : k = n := by omega
      go_wp2
      go_ret
      exact ⟨c, j, rfl, by have := HN.out; rw [← this, List.take_length] at hc; exact hc, rfl⟩
end Go.Proofs.YtbgjcpnbdgljbaaGreatDoor
