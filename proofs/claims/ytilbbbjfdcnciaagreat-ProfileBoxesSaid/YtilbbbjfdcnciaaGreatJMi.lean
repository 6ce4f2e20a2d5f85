/-
  Texts joined by program: A loop over a map: the iterator beside abstract memory. The numbers of parts, holes and corners of a square with a hole. The numbers of parts, holes and corners of a square with a hole: a round of the loop over the map; the whole call. The numbers of parts, holes and corners of a square with a hole: the call. What a program must do whatever the input is: it does. Whether a Spot is right: the program's test and the reference's are one.
-/
import Derived.Test.YtilbbbjfdcnciaaGreatJMh
import Derived.Test.YtilbbbjfdcnciaaGreatJMg
import Derived.Maps.RangeRun
import Derived.Test.YtilbbbjfdcnciaaGreatJCntE
import Derived.Test.YtilbbbjfdcnciaaGreatJAwR
import Derived.Test.YtilbbbjfdcnciaaGreatJAwS
import Derived.Test.YtilbbbjfdcnciaaGreatJAwU
import Derived.Test.YtilbbbjfdcnciaaGreatJAwV
import Derived.Test.YtilbbbjfdcnciaaGreatJMo
/-! A loop over a map: the iterator beside abstract memory. -/
namespace Go.Va
open Go.ChangeMaps (setBlock)

variable {P : Program} {g g' : G}

/-- a block that is no row and no map may come or change -/
theorem WOk.other {m : Mem} {w w' : World} (hw : WOk g m w) (r : Nat) (hh : ∀ b, b < w.heap.size → b ≠ r → w'.heap[b]? = w.heap[b]?) (hr : (∀ C el z, w.heap[r]? ≠ some (.cells C el z)) ∧ ∀ es n, w.heap[r]? ≠ some (.map es n)) : WOk g m w' := by
  have lt : ∀ {b : Nat} {o : Go.Obj}, w.heap[b]? = some o → b < w.heap.size := fun h => (Array.getElem?_eq_some_iff.1 h).1
  refine ⟨fun b o a hi => ?_, fun b ks vs hi => ?_, fun k o hm => ?_, hw.sep, hw.own, hw.vers⟩
  · obtain ⟨v, h1, h2⟩ := hw.immc b o a hi
    refine ⟨v, ?_, h2⟩
    have hc := h1
    unfold World.cell? at hc
    cases hb : w.heap[b]? with
    | none => rw [hb] at hc; simp at hc
    | some ob =>
      by_cases hbr : b = r
      · subst hbr
        rw [hb] at hc
        cases ob with
        | cells C el z => exact absurd hb (hr.1 C el z)
        | _ => simp at hc
      · rw [cell_of_heap (w := w) (w' := w') (hh b (lt hb) hbr)]; exact h1
  · obtain ⟨h0, h1, es, h2, h3⟩ := hw.immm b ks vs hi
    refine ⟨h0, h1, es, ?_, h3⟩
    rw [hh b (lt h2) (fun e => by subst e; exact hr.2 _ _ h2)]; exact h2
  · refine (hw.objs k o hm).mono (Full.refl g) (fun b s hi => ?_)
    have ho := hw.objs k o hm
    cases o with
    | arr ver var cs =>
      rcases ho with ⟨h1, _⟩ | ⟨b', s', h1, C, el, h2, _⟩
      · simp only [Obj.ver] at hi; rw [h1] at hi; cases hi
      · simp only [Obj.ver] at hi
        rw [h1] at hi
        simp only [Option.some.injEq, Pl.at.injEq] at hi
        obtain ⟨rfl, _⟩ := hi
        exact hh b' (lt h2) (fun e => by subst e; exact hr.1 _ _ _ h2)
    | map ks vs =>
      obtain ⟨b', s', es, h1, h2, _⟩ := ho
      simp only [Obj.ver] at hi
      rw [h1] at hi
      simp only [Option.some.injEq, Pl.at.injEq] at hi
      obtain ⟨rfl, _⟩ := hi
      exact hh b' (lt h2) (fun e => by subst e; exact hr.2 _ _ h2)

theorem Left.other {g0 : G} {h0 h : H} {w0 w w' : World} (hl : Left g0 h0 w0 g h w) (r : Nat) (hsz : w.heap.size ≤ w'.heap.size) (hh : ∀ b, b < w.heap.size → b ≠ r → w'.heap[b]? = w.heap[b]?) (hr : w0.heap.size ≤ r) (hb : Beside w w') : Left g0 h0 w0 g h w' := by
  have t := hl.tr
  refine ⟨⟨t.ext, t.unal, Nat.le_trans t.size hsz, fun b hlt hn => ?_, t.foot, hb.os.trans t.os, hb.output.trans t.output, hb.tape.trans t.tape, fun a => (hb.frz a).trans (t.frz a)⟩, hl.cnt, hl.ro, hl.low⟩
  have hk := t.keep b hlt hn
  exact ⟨(hh b (Nat.lt_of_lt_of_le hlt t.size) (by omega)).trans hk.1, hk.2⟩

/-- a place for a key that has none and no object -/
def G.mark (g : G) (k b : Nat) : G := { g with inj := fun k' v => if k' = k ∧ v = 0 then some (.at b 0) else g.inj k' v }

theorem Full.mark {k b : Nat} (hn : g.inj k 0 = none) : Full g (g.mark k b) := ⟨fun _ _ _ h => h, fun _ _ h => h, fun k' v p h => by
  simp only [G.mark]
  split
  · rename_i e; obtain ⟨rfl, rfl⟩ := e; rw [hn] at h; cases h
  · exact h⟩

theorem mark_inj {k b k' v : Nat} (h : k' ≠ k) : (g.mark k b).inj k' v = g.inj k' v := by
  simp only [G.mark]
  rw [if_neg (fun e => h e.1)]

theorem owns_mark {m : Mem} {k b : Nat} (hm : m k = none) {k' b' : Nat} : Owns (g.mark k b) m k' b' ↔ Owns g m k' b' := by
  constructor
  · rintro ⟨o, s, h1, h2⟩
    exact ⟨o, s, h1, by rw [mark_inj (fun e => by subst e; rw [hm] at h1; cases h1)] at h2; exact h2⟩
  · rintro ⟨o, s, h1, h2⟩
    exact ⟨o, s, h1, by rw [mark_inj (fun e => by subst e; rw [hm] at h1; cases h1)]; exact h2⟩

theorem WOk.mark {m : Mem} {w : World} (hw : WOk g m w) {k b : Nat} (hm : m k = none) (hn : g.inj k 0 = none) : WOk (g.mark k b) m w := by
  have hf := Full.mark (g := g) (b := b) hn
  refine ⟨fun b o a hi => ?_, fun b ks vs hi => ?_, fun k' o hk => (hw.objs k' o hk).mono hf (fun _ _ _ => rfl), fun k1 k2 b' h1 h2 => hw.sep k1 k2 b' ((owns_mark hm).1 h1) ((owns_mark hm).1 h2), fun k' b' h => hw.own k' b' ((owns_mark hm).1 h), fun k' o hk v hv => ?_⟩
  · obtain ⟨v, h1, h2, h3⟩ := hw.immc b o a hi
    exact ⟨v, h1, hf.R h2, h3⟩
  · obtain ⟨h0, h1, es, h2, h3⟩ := hw.immm b ks vs hi
    exact ⟨h0, h1, es, h2, h3.mono hf⟩
  · rw [mark_inj (fun e => by subst e; rw [hm] at hk; cases hk)]
    exact hw.vers k' o hk v hv

theorem Left.mark {g0 : G} {h0 h : H} {w0 w : World} (hl : Left g0 h0 w0 g h w) {k b : Nat} (hc : h0.cnt ≤ k) (hm : h.objs.get k = none) (hn : g.inj k 0 = none) : Left g0 h0 w0 (g.mark k b) h w := by
  have t := hl.tr
  have hf := Full.mark (g := g) (b := b) hn
  refine ⟨⟨t.ext.trans (hf.ext _) (Nat.le_refl _), fun k' hk hN hmn => ?_, t.size, t.keep, fun k' b' h => t.foot k' b' ((owns_mark hm).1 h), t.os, t.output, t.tape, t.frz⟩, hl.cnt, hl.ro, hl.low⟩
  have hu := t.unal k' hk hN hmn
  exact ⟨hu.1, fun ver => by rw [mark_inj (by omega)]; exact hu.2 ver⟩

theorem Inv.tmps {t : T} {h : H} {tmps tmps' : Array Value} {w : World} (hi : Inv g t h tmps w) (ht : TOk g t.get tmps') : Inv g t h tmps' w := ⟨ht, hi.wok, hi.nd, hi.fresh, hi.ro⟩

theorem getD_set {tmps : Array Value} {d n : Nat} {v : Value} (hne : d ≠ n) : (tmps.setIfInBounds d v).getD n undef = tmps.getD n undef := by
  simp only [Array.getD_eq_getD_getElem?, Array.getElem?_setIfInBounds]
  rw [if_neg hne]

theorem put_other (a : Act) {d n : Nat} (v : Value) (hne : d ≠ n) : (a.put (some d) v).tmps.getD n undef = a.tmps.getD n undef := getD_set hne

theorem put_same (a : Act) {d : Nat} (v : Value) (h : d < a.tmps.size) : (a.put (some d) v).tmps.getD d undef = v := by
  rw [put_tmps _ _ _ _ (fun m hm => by cases hm; exact h)]
  simp

theorem TOk.put_bot {t : T} {a : Act} (h : TOk g t.get a.tmps) {d : Nat} (hd : t.get d = .bot) (v : Value) : TOk g t.get (a.put (some d) v).tmps := by
  intro n
  by_cases hne : d = n
  · subst hne; rw [hd]; trivial
  · rw [put_other _ _ hne]; exact h n

/-- a piece of code that the abstract machine runs -/
theorem piece {ex : ExecF} (hex : ExecOk P ex) {ac : AC} {t t' : T} {h h' : H} (hx : ex ac t h = some (.norm, t', h')) {N : Nat} {code rest : Code} {Q : Exit → Act → World → Prop} (hag : agCode P N code ac = true) {g0 : G} {h0 : H} {w0 : World} {a : Act} {w : World}
    (st : St g t h N a w) (hl : Left g0 h0 w0 g h w) (K : ∀ g' a' w', St g' t' h' N a' w' → Left g0 h0 w0 g' h' w' → rest.wp P Q a' w') : (Code.seq code rest).wp P Q a w := by
  refine wp_seq (wp_mono (hex _ _ _ _ _ _ hx N code hag g a w st.inv st.size st.defers) fun e a1 w1 hpo => norm_then hpo.1 ?_)
  obtain ⟨_, p2, p3, g2, p4, p5⟩ := hpo
  exact K g2 a1 w1 ⟨p4, p3, p2⟩ (hl.trans p5)

/-- a callee that ran on data alone -/
theorem pure_post {h h1 : H} {v : AV} {l : List AV} {os' : Objs} {g1 : G} {w w' : World} {cv : Value} (hfz : freezeV 0 deep h1.objs (pack l) = some (v, os')) (hw : WOk g h.objs.get w) (hnd : Nd h.objs) (hfr : Fresh g (· < h.cnt))
    (p1 : R g1 (pack l) cv) (p2 : WOk g1 h1.objs.get w') (p6 : Left g.bare h00 w g1 h1 w') : Ret g h w v h cv w' := by
  obtain ⟨g2, hz, hv⟩ := freezeV_ok (w := w') (ro := 0) deep _ _ _ _ _ _ hfz p2 p1
  have htr := (p6.tr.trans (hz.tr 0 (fun _ => False)) (Nat.zero_le _))
  let g' : G := { imm := g2.imm, immM := g2.immM, inj := g.inj }
  have hs2 : SameImm g2 g' := ⟨fun _ _ _ h => h, fun _ _ h => h⟩
  have hfull : Full g g' := ⟨fun b o a ha => htr.ext.imm b o a ha, fun b x hx => htr.ext.immM b x hx, fun _ _ _ h => h⟩
  have hk := fun b hb => htr.keep b hb (fun k => no_owns)
  have ha := hw.after (g' := g') (w' := w') (fun b hb => (hk b hb).1) htr.size ⟨htr.os, htr.output, htr.tape, htr.frz⟩ hfull rfl (fun b hb => (hk b hb).2)
    (fun b o a _ hi => by
      obtain ⟨u, q1, q2, q3, q4⟩ := hz.wok.immc b o a hi
      exact ⟨u, q1, R_data hs2 q4 q2, q3, q4⟩)
    (fun b ks vs _ hi => by
      obtain ⟨q0, q1, es, q2, q3⟩ := hz.wok.immm b ks vs hi
      exact ⟨q0, q1, es, q2, q3.data hs2 q1⟩)
  exact ⟨g', R_data hs2 hv.data hv.rel, ha.1, hnd, hfr, ha.2 _ _, Nat.le_refl _, rfl, fun _ _ => rfl⟩

end Go.Va
/-! The numbers of parts, holes and corners of a square with a hole. -/
namespace Go.Va
open Go.Proofs
open Go.ChangeMaps (setBlock)

variable {g g' : G}

theorem tabM_ok : TabOk Tryz.prog tabM := tab_ok.over (memo_ok tab_ok hmO (f := 71) (by kernel_rfl) rfl run71)

theorem exM_ok : ExecOk Tryz.prog (exec tabM 100) := (exec_all tabM_ok hmO 100).1

/-- how many of the keys that were met are kept by themselves -/
def tot (seen : Array Nat) : Int := (if seen.contains 0 then 1 else 0) + (if seen.contains 4 then 1 else 0)

theorem tot_range (seen : Array Nat) : tot seen = 0 ∨ tot seen = 1 ∨ tot seen = 2 := by
  unfold tot
  split <;> split <;> simp

theorem tot_push (seen : Array Nat) (i : Nat) (h : seen.contains i = false) : tot (seen.push i) = tot seen + cOf i := by
  unfold tot cOf
  rw [contains_push, contains_push]
  by_cases h0 : i = 0
  · subst h0
    simp only [h, beq_self_eq_true, Bool.or_true, if_true, Bool.false_eq_true, if_false]
    cases seen.contains 4 <;> simp
  · by_cases h4 : i = 4
    · subst h4
      simp only [h, beq_self_eq_true, Bool.or_true, if_true, Bool.false_eq_true, if_false]
      cases seen.contains 0 <;> simp
    · have e0 : (0 == i) = false := by simp; omega
      have e4 : (4 == i) = false := by simp; omega
      simp [e0, e4, h0, h4]

/-- how many keys are still to come -/
def cMu (r : Nat) (w : World) : Nat :=
  match w.heap[r]? with
  | some (.mapIter _ _ seen _) => ((List.range 8).filter (fun i => !seen.contains i)).length
  | _ => 0

theorem mu_push (seen : Array Nat) (i : Nat) (hi : i < 8) (h : seen.contains i = false) : ((List.range 8).filter (fun k => !(seen.push i).contains k)).length < ((List.range 8).filter (fun k => !seen.contains k)).length := by
  have e : (List.range 8).filter (fun k => !(seen.push i).contains k) = ((List.range 8).filter (fun k => !seen.contains k)).filter (fun k => !(k == i)) := by
    rw [List.filter_filter]
    congr 1
    funext k
    rw [contains_push, Bool.not_or, Bool.and_comm]
  rw [e]
  refine Nat.lt_of_le_of_ne (List.length_filter_le _ _) fun he => ?_
  have h1 := List.length_filter_eq_length_iff.1 he i (by simp [hi]; simpa using h)
  simp at h1

/-- the state of the loop over the map -/
def cInv (gb : G) (w0 : World) (r bm : Nat) (a : Act) (w : World) : Prop :=
  ∃ g seen c0, St g (cTL (tot seen)) cHL 98 a w ∧ Left gb h00 w0 g cHL w ∧ g.inj 26 0 = some (.at r 0) ∧ (∃ sz, g.inj 14 0 = some (.at bm sz)) ∧ w.heap[r]? = some (.mapIter (some bm) 8 seen c0) ∧ 8 ≤ c0 ∧ w0.heap.size ≤ r

theorem mem_step {P : Program} {o : Oper} {ao : AOp} {t : T} {a : Act} {w : World} {os : Objs} {v : AV} (hag : agOp P o.op ao = true) (ht : TOn g t a.tmps ao.uses) (hw : WOk g os.get w) (hv : memV t os ao = some v) : StepTo P o a w fun cv w' => w' = w ∧ R g v cv := by
  obtain ⟨cv, h1, h2⟩ := mem_ok (P := P) hag ht hw hv
  exact StepTo.value h1 (.inl rfl) ⟨rfl, h2⟩

theorem inert_step {P : Program} {o : Oper} {ao : AOp} {t : T} {a : Act} {w : World} {os : Objs} {v : AV} (hag : agOp P o.op ao = true) (ht : TOn g t a.tmps ao.uses) (hw : WOk g os.get w) (hv : inertV t ao = some v) : StepTo P o a w fun cv w' => w' = w ∧ R g v cv := by
  obtain ⟨cv, h1, h2⟩ := inert_ok (P := P) hag ht hw.fixed hv
  exact StepTo.value h1 (.inl rfl) ⟨rfl, h2⟩

def cMap : Obj := .map [.agg [.int .i64 0, .int .i64 0], .agg [.int .i64 4, .int .i64 0], .agg [.int .i64 4, .int .i64 4], .agg [.int .i64 0, .int .i64 4], .agg [.int .i64 1, .int .i64 1], .agg [.int .i64 1, .int .i64 3], .agg [.int .i64 3, .int .i64 3], .agg [.int .i64 3, .int .i64 1]]
  [.agg [.int .i64 0, .int .i64 0], .agg [.int .i64 0, .int .i64 0], .agg [.int .i64 0, .int .i64 0], .agg [.int .i64 0, .int .i64 0], .agg [.int .i64 1, .int .i64 1], .agg [.int .i64 1, .int .i64 1], .agg [.int .i64 1, .int .i64 1], .agg [.int .i64 1, .int .i64 1]]

/-- the map's entries in the model -/
theorem entries_at {m : Mem} {w : World} (hw : WOk g m w) (hm : m 14 = some cMap) {bm sz : Nat} (hi : g.inj 14 0 = some (.at bm sz)) : ∃ es : Array MapEntry, w.heap[bm]? = some (.map es 8) ∧ es.size = 8 ∧ (∀ x ∈ es.toList, x.born < 8) ∧ (es.toList.map (·.born)).Nodup ∧
    (∀ i : Nat, i < 8 → ∃ x ∈ es.toList, x.born = i) ∧ ∀ e ∈ es.toList, ∃ x y, R g (.agg [.int .i64 x, .int .i64 y]) e.key ∧ ∀ s : Int, s = 0 ∨ s = 1 ∨ s = 2 → exec tabM 100 cKey (cTE x y s) (cHE x y) = some (.norm, cTL (s + cOf e.born), { cHE x y with cnt := 36 }) := by
  obtain ⟨b, s, es, q1, q2, q3, q4, q5⟩ := hw.objs 14 _ hm
  rw [hi] at q1
  simp only [Option.some.injEq, Pl.at.injEq] at q1
  obtain ⟨rfl, _⟩ := q1
  have h8 : es.size = 8 := by rw [← q3]; rfl
  have hb : es.toList.map (·.born) = List.range 8 := by
    refine List.ext_getElem? fun i => ?_
    rw [List.getElem?_map]
    by_cases hi : i < 8
    · have hx : es.toList[i]? = some (es[i]'(by omega)) := by simp [h8, hi]
      rw [hx, Option.map_some, (q5 i _ (by simp [h8, hi])).1]
      simp [hi]
    · rw [List.getElem?_eq_none (by simp; omega), List.getElem?_eq_none (by simp; omega)]
      rfl
  refine ⟨es, by rw [← h8]; exact q2, h8, fun x hx => ?_, by rw [hb]; exact List.nodup_range, fun i hi => ?_, fun e he => ?_⟩
  · have : x.born ∈ es.toList.map (·.born) := List.mem_map.2 ⟨x, hx, rfl⟩
    rw [hb] at this
    simpa using this
  · have : i ∈ es.toList.map (·.born) := by rw [hb]; simpa using hi
    obtain ⟨x, hx, hxi⟩ := List.mem_map.1 this
    exact ⟨x, hx, hxi⟩
  · obtain ⟨i, hi⟩ := List.mem_iff_getElem?.1 he
    have hi' : es[i]? = some e := by simpa using hi
    obtain ⟨p1, ⟨k, kn, kc, p2, p3, _⟩, _⟩ := q5 i e hi'
    have hlt : i < 8 := by have := (Array.getElem?_eq_some_iff.1 hi').1; omega
    obtain ⟨x, y, hk, hrun⟩ := keyRun (ks := _) (vs := _) (show cHL.objs.get 14 = some cMap from rfl) i hlt
    rw [p2] at hk
    simp only [Option.some.injEq] at hk
    subst hk
    exact ⟨x, y, p3, by rw [p1]; exact hrun⟩

end Go.Va
/-! The numbers of parts, holes and corners of a square with a hole: a round of the loop over the map; the whole call. -/
namespace Go.Va
open Go.Proofs
open Go.ChangeMaps (setBlock)

variable {g g' : G}

theorem cMap_at : cHL.objs.get 14 = some cMap := rfl

theorem left_cnt {g0 : G} {h0 h h' : H} {w0 w : World} (hl : Left g0 h0 w0 g h w) (ho : h'.objs = h.objs) (hr : h'.ro = h.ro) (hc : h.cnt ≤ h'.cnt) : Left g0 h0 w0 g h' w :=
  ⟨by rw [ho]; exact hl.tr, Nat.le_trans hl.cnt hc, hr.trans hl.ro, by rw [ho]; exact hl.low⟩

theorem not_owned {m : Mem} {w : World} (hw : WOk g m w) {r bm s : Nat} {seen : Array Nat} {c0 : Nat} (hit : w.heap[r]? = some (.mapIter (some bm) s seen c0)) : ∀ k, ¬ Owns g m k r := by
  rintro k ⟨o, s', h1, h2⟩
  have ho := hw.objs k o h1
  cases o with
  | arr ver var cs =>
    rcases ho with ⟨q1, _⟩ | ⟨b, z, q1, C, el, q2, _⟩
    · simp only [Obj.ver] at h2; rw [q1] at h2; cases h2
    · simp only [Obj.ver] at h2
      rw [q1] at h2
      simp only [Option.some.injEq, Pl.at.injEq] at h2
      rw [h2.1, hit] at q2
      cases q2
  | map ks vs =>
    obtain ⟨b, z, es, q1, q2, _⟩ := ho
    simp only [Obj.ver] at h2
    rw [q1] at h2
    simp only [Option.some.injEq, Pl.at.injEq] at h2
    rw [h2.1, hit] at q2
    cases q2

/-- WHAT A ROUND DOES WITH ITS KEY -/
theorem key_round {gb : G} {w0 w : World} {r bm : Nat} {seen : Array Nat} {c0 : Nat} {i : Nat} {x y : Int} {a : Act} {kv vv : Value} (st : St g (cTL (tot seen)) cHL 98 a w) (hl : Left gb h00 w0 g cHL w) (h26 : g.inj 26 0 = some (.at r 0)) (h14 : ∃ sz, g.inj 14 0 = some (.at bm sz))
    (hit : w.heap[r]? = some (.mapIter (some bm) 8 (seen.push i) c0)) (hc0 : 8 ≤ c0) (hr0 : w0.heap.size ≤ r) (hns : seen.contains i = false) (hk : R g (.agg [.int .i64 x, .int .i64 y]) kv)
    (hrun : exec tabM 100 cKey (cTE x y (tot seen)) (cHE x y) = some (.norm, cTL (tot seen + cOf i), { cHE x y with cnt := 36 }))
    (hent : (Instr.entry (.pointer (some ⟨r, 0, none⟩))).run Tryz.prog w = .ok (.tuple #[kv, vv]) w) {o77 o78 o17 os : Oper} {c : Code}
    (h77 : o77 = { dst := some 77, op := .entry (.tmp 74), type := o77.type, pos := o77.pos, after := o77.after, guard := none })
    (h78 : o78.op = .extract (.tmp 77) 0 ∧ o78.dst = some 78 ∧ o78.guard = none)
    (hag : agOpers Tryz.prog 98 #[o77, o78, o17, os] [o17, os] [⟨some 17, .alloc [.int .i64 0, .int .i64 0], none⟩, ⟨none, .store 2 (.t 17) (.t 78), none⟩] = true) (hagc : agCode Tryz.prog 98 c cKey = true) {Q : Exit → Act → World → Prop}
    (hQ : ∀ a' w', cInv gb w0 r bm a' w' → w'.heap[r]? = some (.mapIter (some bm) 8 (seen.push i) c0) → Q .normal a' w') {id : Nat} :
    (Code.seq (.region id #[o77, o78, o17, os] false) c).wp Tryz.prog Q a w := by
  refine wp_seq (wp_region ?_)
  show wpOps _ _ _ [0, 1, 2, 3] a w
  have h74 : a.tmps.getD 74 undef = .pointer (some ⟨r, 0, none⟩) := by
    have := st.inv.tok 74
    rw [show (cTL (tot seen)).get 74 = .ptr 26 0 0 from rfl] at this
    simp only [R] at this
    obtain ⟨b, z, h1, h2⟩ := this
    rw [h26] at h1
    simp only [Option.some.injEq, Pl.at.injEq] at h1
    rw [h2, ← h1.1]
  rw [wpOps_cons]
  unfold wpOp
  simp only [List.getElem?_toArray, List.getElem?_cons_zero]
  rw [if_pos (wanted_none (by rw [h77]))]
  refine .inl (StepTo.value (cv := .tuple #[kv, vv]) (w' := w) (post := fun cv w2 => cv = .tuple #[kv, vv] ∧ w2 = w) ?_ (.inl rfl) ⟨rfl, rfl⟩ _ _ fun cv w2 hq => ?_)
  · rw [h77]
    simp only [execOp, Act.eval]
    rw [h74, Sem.run_bind, hent]
    rfl
  obtain ⟨rfl, rfl⟩ := hq
  rw [show o77.dst = some 77 by rw [h77]]
  have lt77 : 77 < a.tmps.size := Nat.lt_of_lt_of_le (by decide) st.size
  have tok1 : TOk g (T.get ((77, .tup [.agg [.int .i64 x, .int .i64 y], .bot]) :: cTL (tot seen))) (a.put (some 77) (.tuple #[kv, vv])).tmps := by
    intro n
    rw [T.get_cons]
    split
    · rename_i e
      subst e
      rw [put_same _ _ lt77]
      simp only [R, RL]
      exact ⟨[kv, vv], rfl, kv, [vv], rfl, hk, vv, [], rfl, trivial, rfl⟩
    · rename_i e
      rw [put_other _ _ (Ne.symm e)]
      exact st.inv.tok n
  rw [wpOps_cons]
  unfold wpOp
  simp only [List.getElem?_toArray, List.getElem?_cons_zero, List.getElem?_cons_succ]
  rw [if_pos (wanted_none h78.2.2)]
  refine .inl (inert_step (g := g) (ao := .ext 0 (.t 77)) (t := (77, .tup [.agg [.int .i64 x, .int .i64 y], .bot]) :: cTL (tot seen)) (os := cHL.objs) (v := .agg [.int .i64 x, .int .i64 y]) (by rw [h78.1]; rfl) (fun n _ => tok1 n) st.inv.wok rfl _ _ fun cv w3 hq => ?_)
  obtain ⟨rfl, hcv⟩ := hq
  rw [h78.2.1]
  have lt78 : 78 < (a.put (some 77) (.tuple #[kv, vv])).tmps.size := by rw [put_size]; exact Nat.lt_of_lt_of_le (by decide) st.size
  have tok2 : TOk g (T.get ((78, .agg [.int .i64 x, .int .i64 y]) :: cTL (tot seen))) ((a.put (some 77) (.tuple #[kv, vv])).put (some 78) cv).tmps := by
    intro n
    rw [T.get_cons]
    split
    · rename_i e
      subst e
      rw [put_same _ _ lt78]
      exact hcv
    · rename_i e
      rw [put_other _ _ (Ne.symm e)]
      by_cases e2 : n = 77
      · subst e2
        show R g .bot _
        trivial
      · rw [put_other _ _ (Ne.symm e2)]
        exact st.inv.tok n
  have hcnt : cHL.cnt = 27 := rfl
  have I0 : SInv g cHL w3 27 4 98 2 g ((78, .agg [.int .i64 x, .int .i64 y]) :: cTL (tot seen)) { cHL with cnt := 31 } ((a.put (some 77) (.tuple #[kv, vv])).put (some 78) cv) w3 :=
    ⟨tok2, st.inv.wok, st.inv.nd, fun k ver hk' => st.inv.fresh k ver (by simp only at hk'; omega), by simp, rfl, fun j _ _ ver => st.inv.fresh _ ver (by omega), by rw [put_size, put_size]; exact st.size, by rw [put_defers', put_defers']; exact st.defers, Tr.refl _ _ _ _ _, fun _ _ => rfl⟩
  refine seq_ok cNone_ok (ops := #[o77, o78, o17, os]) (N := 98) (base := 27) (n := 4) (g0 := g) (h0 := cHL) (w0 := w3) (by decide) (t' := cTE x y (tot seen)) (h' := cHE x y) (fun g5 a5 w5 I5 => ?_)
    [⟨some 17, .alloc [.int .i64 0, .int .i64 0], none⟩, ⟨none, .store 2 (.t 17) (.t 78), none⟩] [o17, os] 2 _ _ g _ w3 hag (fun j => by
      match j with
      | 0 => rfl
      | 1 => rfl
      | j + 2 => simp [show 2 + (j + 2) = j + 4 by omega]) rfl rfl I0
  have hro5 : (cHE x y).ro ≤ (cHE x y).cnt := by show 0 ≤ 31; omega
  have l5 : Left g cHL w3 g5 (cHE x y) w5 := ⟨I5.tr, by show 27 ≤ 31; omega, I5.ro, I5.low⟩
  refine wp_mono (exM_ok _ _ _ _ _ _ hrun 98 c hagc g5 a5 w5 ⟨I5.tok, I5.wok, I5.nd, I5.fresh, hro5⟩ I5.size I5.defers) fun e a6 w6 hpo => ?_
  have hpo2 := (hpo.from l5).trim (h0 := cHL) st.inv.ro [1, 2, 6, 7, 16, 74] e .norm hpo.1
  obtain ⟨p1, p2, p3, g6, p4, p5⟩ := hpo2
  have hT : T.scrub (cTL (tot seen + cOf i)) [1, 2, 6, 7, 16, 74] = cTL (tot (seen.push i)) := by rw [tot_push _ _ hns]; rfl
  have hH : trim cHL.cnt (T.scrub (cTL (tot seen + cOf i)) [1, 2, 6, 7, 16, 74]) { cHE x y with cnt := 36 } = cHL := rfl
  rw [hH] at p4 p5
  rw [hT] at p4
  have hit6 : w6.heap[r]? = some (.mapIter (some bm) 8 (seen.push i) c0) := by
    rw [(p5.tr.keep r (Array.getElem?_eq_some_iff.1 hit).1 (not_owned st.inv.wok hit)).1]; exact hit
  cases e <;> first | exact p1.elim | skip
  refine hQ a6 w6 ⟨g6, seen.push i, c0, ⟨p4, p3, p2⟩, hl.trans p5, p5.tr.ext.inj 26 0 _ (by decide) h26, ?_, hit6, hc0, hr0⟩ hit6
  obtain ⟨sz, h14⟩ := h14
  exact ⟨sz, p5.tr.ext.inj 14 0 _ (by decide) h14⟩

end Go.Va
/-! The numbers of parts, holes and corners of a square with a hole: the call. -/
namespace Go.Va
open Go.Proofs
open Go.ChangeMaps (setBlock)
open Go.MapKept (heap_set)

variable {g g' : G}

/-- where the next key is asked for -/
theorem at_next {gb : G} {w0 : World} {r bm : Nat} {a : Act} {w : World} (I : cInv gb w0 r bm a w) : a.tmps.getD 74 undef = .pointer (some ⟨r, 0, none⟩) := by
  obtain ⟨g, seen, c0, st, _, h26, _⟩ := I
  have := st.inv.tok 74
  rw [show (cTL (tot seen)).get 74 = .ptr 26 0 0 from rfl] at this
  simp only [R] at this
  obtain ⟨b, z, h1, h2⟩ := this
  rw [h26] at h1
  simp only [Option.some.injEq, Pl.at.injEq] at h1
  rw [h2, ← h1.1]

theorem cTL_bot {s : Int} {a : Act} (h : TOk g (cTL s).get a.tmps) {d : Nat} (hd : (cTL s).get d = .bot) (v : Value) : TOk g (cTL s).get (a.put (some d) v).tmps := h.put_bot hd v

set_option maxRecDepth 100000 in
theorem cnt_prim : PrimOk Tryz.prog 26 (memo [ringV] (.tup [.int .i64 1, .int .i64 1, .int .i64 8, .int .i64 0])) := by
  intro args h v h' hp g w cargs hw hnd hf hro hr
  unfold memo at hp
  split at hp
  rotate_left
  · cases hp
  rename_i he
  have e := eqbs_eq he
  subst e
  simp only [Option.some.injEq, Prod.mk.injEq] at hp
  obtain ⟨rfl, rfl⟩ := hp
  have hs : SameImm g g.bare := ⟨fun _ _ _ h => h, fun _ _ h => h⟩
  have hr0 : RL g.bare [ringV] cargs := RL_data hs (cs := [ringV]) (ds := [ringV]) rfl hr
  obtain ⟨cv, rfl, hcv⟩ := RL_one hr0
  refine .inr ⟨run_callFunc_body Tryz.func26 (by kernel_rfl) rfl _ _, calls_of_wp Tryz.func26 rfl ?_⟩
  have st0 : St g.bare cT0 cH0 98 { tmps := [cv].toArray ++ Array.replicate (Tryz.f26.ntmps - [cv].toArray.size) undef, defers := [] } w :=
    ⟨⟨ofArgs_tok hr0 _, by rw [show cH0 = h00 from rfl, get_h00]; exact hw.bare, List.nodup_nil, fun _ _ _ => rfl, Nat.le_refl 0⟩, by simp, rfl⟩
  have l0 : Left g.bare h00 w g.bare cH0 w := Left.refl _ _ _
  refine piece exM_ok cE0 (by kernel_rfl) st0 l0 fun g1 a1 w1 st1 l1 => ?_
  refine piece exM_ok cE1 (by kernel_rfl) st1 l1 fun g2 a2 w2 st2 l2 => ?_
  refine piece exM_ok cE2 (by kernel_rfl) st2 l2 fun g3 a3 w3 st3 l3 => ?_
  refine piece exM_ok cE3 (by kernel_rfl) st3 l3 fun g4 a4 w4 st4 l4 => ?_
  refine piece exM_ok cE4 (by kernel_rfl) st4 l4 fun g5 a5 w5 st5 l5 => ?_
  refine piece exM_ok cE5 (by kernel_rfl) st5 l5 fun g6 a6 w6 st6 l6 => ?_
  refine piece exM_ok cE6 (by kernel_rfl) st6 l6 fun g7 a7 w7 st7 l7 => ?_
  refine piece exM_ok cE7 (by kernel_rfl) st7 l7 fun g8 a8 w8 st8 l8 => ?_
  clear st0 st1 st2 st3 st4 st5 st6 st7 l0 l1 l2 l3 l4 l5 l6 l7
  -- the iterator
  refine wp_seq (wp_seq (wp_region ?_))
  show wpOps _ _ _ [0, 1] a8 w8
  rw [wpOps_cons]
  unfold wpOp
  simp only [List.getElem?_toArray, List.getElem?_cons_zero]
  rw [if_pos (wanted_none rfl)]
  refine .inl (mem_step (g := g8) (ao := .load .one (.t 6)) (t := cT8) (os := cH8.objs) (v := .mapR 14) (by kernel_rfl) (fun n _ => st8.inv.tok n) st8.inv.wok rfl _ _ fun cv w9 hq => ?_)
  obtain ⟨rfl, hmr⟩ := hq
  simp only [R] at hmr
  obtain ⟨bm, sz, hinj, rfl⟩ := hmr
  obtain ⟨es, hes, _⟩ := entries_at st8.inv.wok (show cH8.objs.get 14 = some cMap from rfl) hinj
  rw [wpOps_cons]
  unfold wpOp
  simp only [List.getElem?_toArray, List.getElem?_cons_zero, List.getElem?_cons_succ]
  rw [if_pos (wanted_none rfl)]
  have lt73 : 73 < a8.tmps.size := Nat.lt_of_lt_of_le (by decide) st8.size
  refine .inl (StepTo.value (cv := .pointer (some ⟨w9.heap.size, 0, none⟩)) (w' := w9.alloc (.mapIter (some bm) 8 #[] 8)) (post := fun cv w2 => cv = .pointer (some ⟨w9.heap.size, 0, none⟩) ∧ w2 = w9.alloc (.mapIter (some bm) 8 #[] 8)) ?_ (.inl rfl) ⟨rfl, rfl⟩ _ _ fun cv w10 hq => ?_)
  · simp only [execOp, Act.eval]
    rw [put_same _ _ lt73, Sem.run_bind, run_range_map w9 121 _ _ bm es 8 Tryz.underlying121 hes]
    rfl
  obtain ⟨rfl, rfl⟩ := hq
  generalize ha9 : (a8.put (some 73) (.map (some bm))).put (some 74) (.pointer (some ⟨w9.heap.size, 0, none⟩)) = a9
  have hn26 : g8.inj 26 0 = none := st8.inv.fresh 26 0 (by show ¬ 26 < 25; omega)
  have hfm : Full g8 (g8.mark 26 w9.heap.size) := Full.mark hn26
  have hother : ∀ b, b < w9.heap.size → b ≠ w9.heap.size → (w9.alloc (.mapIter (some bm) 8 #[] 8)).heap[b]? = w9.heap[b]? := fun b hb _ => heap_alloc_lt _ _ hb
  have hnone : w9.heap[w9.heap.size]? = none := Array.getElem?_eq_none (Nat.le_refl _)
  have hnew : (∀ C el z, w9.heap[w9.heap.size]? ≠ some (.cells C el z)) ∧ ∀ es n, w9.heap[w9.heap.size]? ≠ some (.map es n) := ⟨fun _ _ _ hh => (by rw [hnone] at hh; cases hh), fun _ _ hh => (by rw [hnone] at hh; cases hh)⟩
  have I0 : cInv g.bare w w9.heap.size bm a9 (w9.alloc (.mapIter (some bm) 8 #[] 8)) := by
    refine ⟨g8.mark 26 w9.heap.size, #[], 8, ⟨⟨fun n => ?_, (st8.inv.wok.other w9.heap.size hother hnew).mark rfl hn26, st8.inv.nd, fun k ver hk => ?_, by decide⟩, ?_, ?_⟩,
      left_cnt (h := cH8) ((l8.other w9.heap.size (by rw [World.size_alloc]; omega) hother l8.tr.size (Beside.alloc _ _)).mark (Nat.zero_le _) rfl hn26) rfl rfl (by decide), ?_, ⟨sz, ?_⟩, heap_alloc_new _ _, Nat.le_refl _, l8.tr.size⟩
    · by_cases hn : n = 74
      · subst hn
        show R _ (.ptr 26 0 0) _
        rw [← ha9, put_same _ _ (by rw [put_size]; exact Nat.lt_of_lt_of_le (by decide) st8.size)]
        simp only [R]
        exact ⟨w9.heap.size, 0, by simp [G.mark], rfl⟩
      · have e1 : (cTL (tot #[])).get n = cT8.get n := by
          have : tot #[] = 0 := by simp [tot]
          rw [this]
          simp only [cTL, cT8, T.get_cons, hn, if_false]
        rw [e1, ← ha9, put_other _ _ (Ne.symm hn)]
        exact hfm.R ((st8.inv.tok.put_bot (d := 73) rfl _) n)
    · have hk' : ¬ k < 27 := hk
      rw [mark_inj (by omega)]
      exact st8.inv.fresh k ver (by show ¬ k < 25; omega)
    · rw [← ha9, put_size, put_size]; exact st8.size
    · rw [← ha9, put_defers', put_defers']; exact st8.defers
    · simp [G.mark]
    · rw [mark_inj (by decide)]; exact hinj
  generalize w9.alloc (.mapIter (some bm) 8 #[] 8) = w10 at I0
  generalize w9.heap.size = r at I0
  clear hnew hfm hn26 hother hnone hes ha9 lt73 hinj st8 l8
  show wpOps _ _ _ [] a9 w10
  simp only [wpOps]
  -- the loop
  refine wp_block (wp_loop (cInv g.bare w r bm) (fun _ w' => cMu r w') I0 fun a w' I => ?_)
  have h74 := at_next I
  obtain ⟨gl, seen, c0, st, hl, h26, h14', hit, hc0, hr0⟩ := I
  obtain ⟨sz', h14⟩ := h14'
  obtain ⟨es', hes', h8, hold, hnd', hall, hkeys⟩ := entries_at st.inv.wok cMap_at h14
  have lt75 : 75 < a.tmps.size := Nat.lt_of_lt_of_le (by decide) st.size
  have tok75 : ∀ v, TOk gl (T.get (cTL (tot seen))) (a.put (some 75) v).tmps := fun v => st.inv.tok.put_bot rfl v
  refine wp_seq (wp_region ?_)
  show wpOps _ _ _ [0, 1] a w'
  rw [wpOps_cons]
  unfold wpOp
  simp only [List.getElem?_toArray, List.getElem?_cons_zero]
  rw [if_pos (wanted_none rfl)]
  rcases run_next_at (P := Tryz.prog) w' _ r bm 8 c0 seen es' 8 hit hes' hold hc0 with ⟨hz, hrun⟩ | ⟨e, he, w1, hw1, hrun⟩
  · -- no key is left
    refine .inl (StepTo.value (cv := .tuple #[.bool false]) (w' := w') (post := fun cv w2 => cv = .tuple #[.bool false] ∧ w2 = w') ?_ (.inl rfl) ⟨rfl, rfl⟩ _ _ fun cv w2 hq => ?_)
    · simp only [execOp, Act.eval]
      rw [h74, Sem.run_bind, hrun]
      rfl
    obtain ⟨rfl, rfl⟩ := hq
    rw [wpOps_cons]
    unfold wpOp
    simp only [List.getElem?_toArray, List.getElem?_cons_zero, List.getElem?_cons_succ]
    rw [if_pos (wanted_none rfl)]
    have tokA : TOk gl (T.get ((75, .tup [.bool false]) :: cTL (tot seen))) (a.put (some 75) (.tuple #[.bool false])).tmps := by
      intro n
      rw [T.get_cons]
      split
      · rename_i e
        subst e
        rw [put_same _ _ lt75]
        simp only [R, RL]
        exact ⟨[.bool false], rfl, .bool false, [], rfl, rfl, rfl⟩
      · exact tok75 _ n
    refine .inl (inert_step (g := gl) (ao := .ext 0 (.t 75)) (t := (75, .tup [.bool false]) :: cTL (tot seen)) (os := cHL.objs) (v := .bool false) (by kernel_rfl) (fun n _ => tokA n) st.inv.wok rfl _ _ fun cv w3 hq => ?_)
    obtain ⟨rfl, hcv⟩ := hq
    simp only [R] at hcv
    subst hcv
    show wpOps _ _ _ [] _ w3
    simp only [wpOps]
    refine wp_seq (wp_cond (t := false) ?_ ?_)
    · rw [eval_tmp, put_same _ _ (by rw [put_size]; exact Nat.lt_of_lt_of_le (by decide) st.size)]
    rw [if_neg (by simp)]
    refine wp_exit ?_
    simp only [Exit.then, Exit.inBlock, if_true]
    have hs2 : tot seen = 2 := by
      have hall2 := all_seen es' seen hz
      obtain ⟨x0, hx0, e0⟩ := hall 0 (by decide)
      obtain ⟨x4, hx4, e4⟩ := hall 4 (by decide)
      have q0 := hall2 x0 hx0
      have q4 := hall2 x4 hx4
      rw [e0] at q0
      rw [e4] at q4
      unfold tot
      rw [if_pos q0, if_pos q4]
      rfl
    have tokB : TOk gl (T.get (cTL (tot seen))) ((a.put (some 75) (.tuple #[.bool false])).put (some 76) (.bool false)).tmps := (tok75 _).put_bot rfl _
    generalize hb : (a.put (some 75) (.tuple #[.bool false])).put (some 76) (.bool false) = b at tokB
    have stB : St gl (cTL 2) cHL 98 b w3 := by
      rw [← hs2]
      exact ⟨⟨tokB, st.inv.wok, st.inv.nd, st.inv.fresh, st.inv.ro⟩, by rw [← hb, put_size, put_size]; exact st.size, by rw [← hb, put_defers', put_defers']; exact st.defers⟩
    show Code.wp _ _ _ b w3
    refine piece exM_ok cE9 (by kernel_rfl) stB hl fun g9 a9 w9 st9 l9 => ?_
    refine piece exM_ok cE10 (by kernel_rfl) st9 l9 fun g10 a10 w10 st10 l10 => wp_ret ?_
    refine fin_ok (e := .ret) (res := [.t 2, .t 3, .t 4, .t 5]) (out := .ret) (g := g10) (h := { cHL with cnt := 44 }) (h' := { cHL with cnt := 44 }) (w := w10) (t' := cT10) (N := 98) (by kernel_rfl) (fun i hi => by cases hi) rfl ⟨trivial, st10.defers, st10.size, g10, st10.inv, Left.refl _ _ _⟩ fun g' cv q1 q2 _ _ _ q6 => ?_
    exact pure_post (h1 := { cHL with cnt := 44 }) (l := [.int .i64 1, .int .i64 1, .int .i64 8, .int .i64 0]) rfl hw hnd hf q1 q2 (l10.trans q6)
  · -- the next key
    refine .inl (StepTo.value (cv := .tuple #[.bool true, e.key, e.val]) (w' := setBlock w1 r (.mapIter (some bm) 8 (seen.push e.born) 8)) (post := fun cv w2 => cv = .tuple #[.bool true, e.key, e.val] ∧ w2 = setBlock w1 r (.mapIter (some bm) 8 (seen.push e.born) 8)) ?_ (.inl rfl) ⟨rfl, rfl⟩ _ _ fun cv w2 hq => ?_)
    · simp only [execOp, Act.eval]
      rw [h74, Sem.run_bind, hrun]
      rfl
    obtain ⟨rfl, hw2⟩ := hq
    rw [wpOps_cons]
    unfold wpOp
    simp only [List.getElem?_toArray, List.getElem?_cons_zero, List.getElem?_cons_succ]
    rw [if_pos (wanted_none rfl)]
    obtain ⟨hem, hes2⟩ := mem_left he
    have hheap : w1.heap = w'.heap := by rcases hw1 with rfl | rfl <;> rfl
    have hset := heap_set (w := w1) (o' := .mapIter (some bm) 8 (seen.push e.born) 8) (by rw [hheap]; exact hit)
    have hit2 : w2.heap[r]? = some (.mapIter (some bm) 8 (seen.push e.born) 8) := by rw [hw2]; exact hset.1
    have hoth : ∀ b, b ≠ r → w2.heap[b]? = w'.heap[b]? := fun b hb => by rw [hw2, ← hheap]; exact hset.2 b hb
    have hsz2 : w2.heap.size = w'.heap.size := by rw [hw2, ← hheap]; simp [setBlock]
    have hbes : Beside w' w2 := by
      have hfz : ∀ a, w2.frozen? a = w'.frozen? a := fun ad => by
        unfold World.frozen?
        by_cases hab : ad.block = r
        · rw [hab, hit2, hit]
        · rw [hoth _ hab]
      rw [hw2] at hfz ⊢
      rcases hw1 with rfl | rfl <;> exact ⟨rfl, rfl, rfl, hfz⟩
    have hwok2 : WOk gl cHL.objs.get w2 := st.inv.wok.other r (fun b _ hb => hoth b hb) ⟨fun _ _ _ hh => (by rw [hit] at hh; cases hh), fun _ _ hh => (by rw [hit] at hh; cases hh)⟩
    have hl2 : Left g.bare h00 w gl cHL w2 := hl.other r (by omega) (fun b _ hb => hoth b hb) hr0 hbes
    have hbm : bm ≠ r := fun hh => by rw [hh, hit] at hes'; cases hes'
    have hes2' : w2.heap[bm]? = some (.map es' 8) := by rw [hoth bm hbm]; exact hes'
    have tokA : TOk gl (T.get ((75, .tup [.bool true, .bot, .bot]) :: cTL (tot seen))) (a.put (some 75) (.tuple #[.bool true, e.key, e.val])).tmps := by
      intro n
      rw [T.get_cons]
      split
      · rename_i e1
        subst e1
        rw [put_same _ _ lt75]
        simp only [R, RL]
        exact ⟨[.bool true, e.key, e.val], rfl, .bool true, _, rfl, rfl, e.key, _, rfl, trivial, e.val, [], rfl, trivial, rfl⟩
      · exact tok75 _ n
    refine .inl (inert_step (g := gl) (ao := .ext 0 (.t 75)) (t := (75, .tup [.bool true, .bot, .bot]) :: cTL (tot seen)) (os := cHL.objs) (v := .bool true) (by kernel_rfl) (fun n _ => tokA n) hwok2 rfl _ _ fun cv w3 hq => ?_)
    obtain ⟨rfl, hcv⟩ := hq
    simp only [R] at hcv
    subst hcv
    show wpOps _ _ _ [] _ w3
    simp only [wpOps]
    refine wp_seq (wp_cond (t := true) ?_ ?_)
    · rw [eval_tmp, put_same _ _ (by rw [put_size]; exact Nat.lt_of_lt_of_le (by decide) st.size)]
    rw [if_pos rfl]
    refine wp_skip ?_
    show Code.wp _ _ _ _ w3
    have tokB : TOk gl (T.get (cTL (tot seen))) ((a.put (some 75) (.tuple #[.bool true, e.key, e.val])).put (some 76) (.bool true)).tmps := (tok75 _).put_bot rfl _
    obtain ⟨x, y, hkr, hkrun⟩ := hkeys e hem
    refine wp_block ?_
    refine key_round (g := gl) (seen := seen) (i := e.born) (c0 := 8) (kv := e.key) (vv := e.val) (x := x) (y := y) ⟨⟨tokB, hwok2, st.inv.nd, st.inv.fresh, st.inv.ro⟩, by rw [put_size, put_size]; exact st.size, by rw [put_defers', put_defers']; exact st.defers⟩ hl2 h26 ⟨sz', h14⟩
      hit2 (Nat.le_refl _) hr0 hes2 hkr (hkrun _ (tot_range seen)) (run_entry_at w3 r bm 8 seen es' 8 e hit2 hes2' hem hnd') rfl ⟨rfl, rfl, rfl⟩ (by kernel_rfl) (by kernel_rfl) fun a' w4 I' hit' => ?_
    refine ⟨I', ?_⟩
    unfold cMu
    rw [hit', hit]
    exact mu_push seen e.born (hold e hem) hes2

end Go.Va
/-! What a program must do whatever the input is: it does. -/
namespace Go.Va
open Go.Proofs

theorem PrimOk.or {P : Program} {f : FuncId} {p q : List AV → H → Option (AV × H)} (hp : PrimOk P f p) (hq : PrimOk P f q) : PrimOk P f (orElse p q) := by
  intro args h v h' ho
  unfold orElse at ho
  split at ho
  · rename_i r hr
    simp only [Option.some.injEq] at ho
    subst ho
    exact hp args h v h' hr
  · exact hq args h v h' ho

theorem tabA_ok : TabOk Tryz.prog tabA :=
  (tabM_ok.over cnt_prim).over ((memo_ok tabM_ok hmO (f := 21) (by kernel_rfl) rfl run21a).or (memo_ok tabM_ok hmO (f := 21) (by kernel_rfl) rfl run21b))

theorem tabB_ok : TabOk Tryz.prog tabB := tabA_ok.over (memo_ok tabA_ok hmO (f := 12) (by kernel_rfl) rfl run12)

end Go.Va
/-! Whether a Spot is right: the program's test and the reference's are one. -/
namespace Go.Va
open Go.Proofs

def isR (x y : Int) : Bool := decide (-500 ≤ x) && decide (x ≤ 500) && decide (-500 ≤ y) && decide (y ≤ 500)

def primR : List AV → H → Option (AV × H)
  | [.agg [.int .i64 x, .int .i64 y]], h => some (.bool (isR x y), h)
  | _, _ => none

theorem run_of_path {F : Tab} {n : Nat} {af : AFunc} {ds : List AV} {p p' : Pa} {v : AV} {cs : Cs} (h : callPureB (execB F n) af ds p = some (v, p', cs)) (hg : Good cs) : callPure (exec F n) af ds = some v := callPureB_ok (execB_ok F n) h hg

/-- a function of data by its runs -/
theorem prim_of_runs {P : Program} {F : Tab} (hF : TabOk P F) (hm : P.follows .mixedOrders = true) {n : Nat} {f : FuncId} {af : AFunc} (hf : F f = some (.code af)) {p : List AV → H → Option (AV × H)}
    (hp : ∀ args h v h', p args h = some (v, h') → h' = h ∧ AV.datas args = some args ∧ callPure (exec F n) af args = some v) : PrimOk P f p := by
  intro args h v h' ho g w cargs hw hnd hfr hro hr
  obtain ⟨rfl, hd, hrun⟩ := hp args h v h' ho
  refine call_ok hF hm n .pure f args h' v h' ?_ g w cargs hw hnd hfr hro hr
  unfold call callBody
  rw [hf]
  simp only [hd, hrun]

theorem p53t : (fun x y : Int => callPureB (execB tabB 20) a53 [.agg [.int .i64 x, .int .i64 y]] [some true, some true, some true, some true, some true, some true, some true]) =
    fun x y => some (.bool (decide ((if y < x then y else x) ≥ -500)), [], [(decide ((if y > x then y else x) ≤ 500) == true, true), (decide ((if y > x then y else x) ≤ 500) == true, true), (decide ((if y > x then y else x) ≤ 500) == true, true),
      (decide ((if y > x then y else x) ≤ 500) == true, true), (decide ((if y > x then y else x) ≤ 500) == true, true), (decide ((if y > x then y else x) ≤ 500) == true, true), (decide ((if y > x then y else x) ≤ 500), true)]) := by kernel_rfl

theorem p53f : (fun x y : Int => callPureB (execB tabB 20) a53 [.agg [.int .i64 x, .int .i64 y]] [some false, some false, some false, some false, some false, some false, some false]) =
    fun x y => some (.bool false, [], [(decide ((if y > x then y else x) ≤ 500) == true, false), (decide ((if y > x then y else x) ≤ 500) == true, false), (decide ((if y > x then y else x) ≤ 500) == true, false),
      (decide ((if y > x then y else x) ≤ 500) == true, false), (decide ((if y > x then y else x) ≤ 500) == true, false), (decide ((if y > x then y else x) ≤ 500) == true, false), (decide ((if y > x then y else x) ≤ 500), false)]) := by kernel_rfl

theorem run53 (x y : Int) : callPure (exec tabB 20) a53 [.agg [.int .i64 x, .int .i64 y]] = some (.bool (isR x y)) := by
  by_cases h : (if y > x then y else x) ≤ 500
  · have := run_of_path (congrFun (congrFun p53t x) y) (by simp [Good, h])
    rw [this]
    unfold isR
    simp only [Option.some.injEq, AV.bool.injEq]
    rw [← Bool.decide_and, ← Bool.decide_and, ← Bool.decide_and, decide_eq_decide]
    split at h <;> split <;> omega
  · have := run_of_path (congrFun (congrFun p53f x) y) (by simp [Good, h])
    rw [this]
    unfold isR
    simp only [Option.some.injEq, AV.bool.injEq]
    rw [← Bool.decide_and, ← Bool.decide_and, ← Bool.decide_and]
    refine (decide_eq_false ?_).symm
    split at h <;> omega

theorem p62f1 : (fun x y : Int => callPureB (execB tabB 20) a62 [.agg [.int .i64 x, .int .i64 y]] [some false, some false, some false, some false]) =
    fun x _ => some (.bool false, [], [(decide (x ≥ -500) == true, false), (decide (x ≥ -500) == true, false), (decide (x ≥ -500) == true, false), (decide (x ≥ -500), false)]) := by kernel_rfl

theorem p62f2 : (fun x y : Int => callPureB (execB tabB 20) a62 [.agg [.int .i64 x, .int .i64 y]] [some true, some true, some true, some true, some false, some false, some false, some false]) =
    fun x _ => some (.bool false, [], [(decide (x ≥ -500) == true, true), (decide (x ≥ -500) == true, true), (decide (x ≥ -500) == true, true), (decide (x ≥ -500), true),
      (decide (x ≤ 500) == true, false), (decide (x ≤ 500) == true, false), (decide (x ≤ 500) == true, false), (decide (x ≤ 500), false)]) := by kernel_rfl

theorem p62f3 : (fun x y : Int => callPureB (execB tabB 20) a62 [.agg [.int .i64 x, .int .i64 y]] [some true, some true, some true, some true, some true, some true, some true, some true, some false, some false, some false, some false]) =
    fun x y => some (.bool false, [], [(decide (x ≥ -500) == true, true), (decide (x ≥ -500) == true, true), (decide (x ≥ -500) == true, true), (decide (x ≥ -500), true),
      (decide (x ≤ 500) == true, true), (decide (x ≤ 500) == true, true), (decide (x ≤ 500) == true, true), (decide (x ≤ 500), true),
      (decide (y ≥ -500) == true, false), (decide (y ≥ -500) == true, false), (decide (y ≥ -500) == true, false), (decide (y ≥ -500), false)]) := by kernel_rfl

theorem p62t : (fun x y : Int => callPureB (execB tabB 20) a62 [.agg [.int .i64 x, .int .i64 y]] [some true, some true, some true, some true, some true, some true, some true, some true, some true, some true, some true, some true]) =
    fun x y => some (.bool (decide (y ≤ 500)), [], [(decide (x ≥ -500) == true, true), (decide (x ≥ -500) == true, true), (decide (x ≥ -500) == true, true), (decide (x ≥ -500), true),
      (decide (x ≤ 500) == true, true), (decide (x ≤ 500) == true, true), (decide (x ≤ 500) == true, true), (decide (x ≤ 500), true),
      (decide (y ≥ -500) == true, true), (decide (y ≥ -500) == true, true), (decide (y ≥ -500) == true, true), (decide (y ≥ -500), true)]) := by kernel_rfl

theorem run62 (x y : Int) : callPure (exec tabB 20) a62 [.agg [.int .i64 x, .int .i64 y]] = some (.bool (isR x y)) := by
  by_cases h1 : x ≥ -500
  · by_cases h2 : x ≤ 500
    · by_cases h3 : y ≥ -500
      · have := run_of_path (congrFun (congrFun p62t x) y) (by simp [Good, h1, h2, h3])
        rw [this]
        have h1' : -500 ≤ x := h1
        have h3' : -500 ≤ y := h3
        simp [isR, h1', h2, h3']
      · have := run_of_path (congrFun (congrFun p62f3 x) y) (by simp [Good, h1, h2, h3])
        rw [this]
        have h3' : ¬ -500 ≤ y := h3
        simp [isR, h3']
    · have := run_of_path (congrFun (congrFun p62f2 x) y) (by simp [Good, h1, h2])
      rw [this]
      simp [isR, h2]
  · have := run_of_path (congrFun (congrFun p62f1 x) y) (by simp [Good, h1])
    rw [this]
    have h1' : ¬ -500 ≤ x := h1
    simp [isR, h1']

theorem primR_ok {f : FuncId} {af : AFunc} (hf : tabB f = some (.code af)) (hrun : ∀ x y, callPure (exec tabB 20) af [.agg [.int .i64 x, .int .i64 y]] = some (.bool (isR x y))) : PrimOk Tryz.prog f primR := by
  refine prim_of_runs tabB_ok hmO (n := 20) hf fun args h v h' ho => ?_
  unfold primR at ho
  split at ho
  · rename_i x y h0
    simp only [Option.some.injEq, Prod.mk.injEq] at ho
    obtain ⟨rfl, rfl⟩ := ho
    exact ⟨rfl, rfl, hrun _ _⟩
  · cases ho

/-- the table with the test of Spots -/
def tabC : Tab := (tabB.over 53 primR).over 62 primR

theorem tabC_ok : TabOk Tryz.prog tabC := (tabB_ok.over (primR_ok (by kernel_rfl) run53)).over (primR_ok (by kernel_rfl) run62)

end Go.Va
