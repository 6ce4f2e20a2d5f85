/-
  Texts joined by program: The functions of part 1 stand for the program: made by program. The functions of part 2 stand for the program: made by program. Functions of the library that are given by hand to the abstract machine: they stand for the program's. The table stands for the program: made by program.
-/
import Derived.Test.YtilbbbjfdcnciaaGreatJTa
import Derived.Test.YtilbbbjfdcnciaaGreatJMb
import Derived.Test.YtilbbbjfdcnciaaGreatProg
import Derived.KernelRfl
import Derived.Test.YtilbbbjfdcnciaaGreatJTb
import Derived.Test.YtilbbbjfdcnciaaGreatJMg
import Derived.Test.YtilbbbjfdcnciaaGreatJMa
import Derived.Laws.Cover3
import Derived.Test.YtilbbbjfdcnciaaGreatJTab
/-! The functions of part 1 stand for the program: made by program. -/
namespace Go.Va
open Go.Proofs

theorem ok7 : agFunc Tryz.prog Tryz.f7 a7 = true := by kernel_rfl
theorem ok12 : agFunc Tryz.prog Tryz.f12 a12 = true := by kernel_rfl
theorem ok13 : agFunc Tryz.prog Tryz.f13 a13 = true := by kernel_rfl
theorem ok14 : agFunc Tryz.prog Tryz.f14 a14 = true := by kernel_rfl
theorem ok15 : agFunc Tryz.prog Tryz.f15 a15 = true := by kernel_rfl
theorem ok18 : agFunc Tryz.prog Tryz.f18 a18 = true := by kernel_rfl
theorem ok21 : agFunc Tryz.prog Tryz.f21 a21 = true := by kernel_rfl
theorem ok25 : agFunc Tryz.prog Tryz.f25 a25 = true := by kernel_rfl
theorem ok26 : agFunc Tryz.prog Tryz.f26 a26 = true := by kernel_rfl
theorem ok30 : agFunc Tryz.prog Tryz.f30 a30 = true := by kernel_rfl
theorem ok31 : agFunc Tryz.prog Tryz.f31 a31 = true := by kernel_rfl
theorem ok41 : agFunc Tryz.prog Tryz.f41 a41 = true := by kernel_rfl
theorem ok50 : agFunc Tryz.prog Tryz.f50 a50 = true := by kernel_rfl
theorem ok51 : agFunc Tryz.prog Tryz.f51 a51 = true := by kernel_rfl
theorem ok52 : agFunc Tryz.prog Tryz.f52 a52 = true := by kernel_rfl
theorem ok53 : agFunc Tryz.prog Tryz.f53 a53 = true := by kernel_rfl
theorem ok55 : agFunc Tryz.prog Tryz.f55 a55 = true := by kernel_rfl
theorem ok56 : agFunc Tryz.prog Tryz.f56 a56 = true := by kernel_rfl
theorem ok57 : agFunc Tryz.prog Tryz.f57 a57 = true := by kernel_rfl
theorem ok58 : agFunc Tryz.prog Tryz.f58 a58 = true := by kernel_rfl
theorem ok59 : agFunc Tryz.prog Tryz.f59 a59 = true := by kernel_rfl
theorem ok60 : agFunc Tryz.prog Tryz.f60 a60 = true := by kernel_rfl
theorem ok61 : agFunc Tryz.prog Tryz.f61 a61 = true := by kernel_rfl
theorem ok62 : agFunc Tryz.prog Tryz.f62 a62 = true := by kernel_rfl
theorem ok63 : agFunc Tryz.prog Tryz.f63 a63 = true := by kernel_rfl
theorem ok71 : agFunc Tryz.prog Tryz.f71 a71 = true := by kernel_rfl
theorem ok72 : agFunc Tryz.prog Tryz.f72 a72 = true := by kernel_rfl
theorem ok73 : agFunc Tryz.prog Tryz.f73 a73 = true := by kernel_rfl
theorem ok74 : agFunc Tryz.prog Tryz.f74 a74 = true := by kernel_rfl
theorem ok78 : agFunc Tryz.prog Tryz.f78 a78 = true := by kernel_rfl
theorem ok79 : agFunc Tryz.prog Tryz.f79 a79 = true := by kernel_rfl
theorem ok80 : agFunc Tryz.prog Tryz.f80 a80 = true := by kernel_rfl
theorem ok90 : agFunc Tryz.prog Tryz.f90 a90 = true := by kernel_rfl
theorem ok92 : agFunc Tryz.prog Tryz.f92 a92 = true := by kernel_rfl
theorem ok93 : agFunc Tryz.prog Tryz.f93 a93 = true := by kernel_rfl
theorem ok94 : agFunc Tryz.prog Tryz.f94 a94 = true := by kernel_rfl
theorem ok95 : agFunc Tryz.prog Tryz.f95 a95 = true := by kernel_rfl
theorem ok96 : agFunc Tryz.prog Tryz.f96 a96 = true := by kernel_rfl
theorem ok97 : agFunc Tryz.prog Tryz.f97 a97 = true := by kernel_rfl
theorem ok98 : agFunc Tryz.prog Tryz.f98 a98 = true := by kernel_rfl
theorem ok109 : agFunc Tryz.prog Tryz.f109 a109 = true := by kernel_rfl
theorem ok110 : agFunc Tryz.prog Tryz.f110 a110 = true := by kernel_rfl
theorem ok111 : agFunc Tryz.prog Tryz.f111 a111 = true := by kernel_rfl
theorem ok112 : agFunc Tryz.prog Tryz.f112 a112 = true := by kernel_rfl
theorem ok113 : agFunc Tryz.prog Tryz.f113 a113 = true := by kernel_rfl
theorem ok114 : agFunc Tryz.prog Tryz.f114 a114 = true := by kernel_rfl
theorem ok115 : agFunc Tryz.prog Tryz.f115 a115 = true := by kernel_rfl
theorem ok116 : agFunc Tryz.prog Tryz.f116 a116 = true := by kernel_rfl
theorem ok117 : agFunc Tryz.prog Tryz.f117 a117 = true := by kernel_rfl
theorem ok118 : agFunc Tryz.prog Tryz.f118 a118 = true := by kernel_rfl
theorem ok119 : agFunc Tryz.prog Tryz.f119 a119 = true := by kernel_rfl
theorem ok120 : agFunc Tryz.prog Tryz.f120 a120 = true := by kernel_rfl
theorem ok121 : agFunc Tryz.prog Tryz.f121 a121 = true := by kernel_rfl
theorem ok122 : agFunc Tryz.prog Tryz.f122 a122 = true := by kernel_rfl
theorem ok123 : agFunc Tryz.prog Tryz.f123 a123 = true := by kernel_rfl
theorem ok124 : agFunc Tryz.prog Tryz.f124 a124 = true := by kernel_rfl
theorem ok125 : agFunc Tryz.prog Tryz.f125 a125 = true := by kernel_rfl
theorem ok138 : agFunc Tryz.prog Tryz.f138 a138 = true := by kernel_rfl
theorem ok139 : agFunc Tryz.prog Tryz.f139 a139 = true := by kernel_rfl
theorem ok140 : agFunc Tryz.prog Tryz.f140 a140 = true := by kernel_rfl
theorem ok141 : agFunc Tryz.prog Tryz.f141 a141 = true := by kernel_rfl
theorem ok142 : agFunc Tryz.prog Tryz.f142 a142 = true := by kernel_rfl
theorem ok143 : agFunc Tryz.prog Tryz.f143 a143 = true := by kernel_rfl
theorem ok144 : agFunc Tryz.prog Tryz.f144 a144 = true := by kernel_rfl
theorem ok145 : agFunc Tryz.prog Tryz.f145 a145 = true := by kernel_rfl
theorem ok146 : agFunc Tryz.prog Tryz.f146 a146 = true := by kernel_rfl
theorem ok147 : agFunc Tryz.prog Tryz.f147 a147 = true := by kernel_rfl
theorem ok148 : agFunc Tryz.prog Tryz.f148 a148 = true := by kernel_rfl
theorem ok157 : agFunc Tryz.prog Tryz.f157 a157 = true := by kernel_rfl
theorem ok158 : agFunc Tryz.prog Tryz.f158 a158 = true := by kernel_rfl
theorem ok159 : agFunc Tryz.prog Tryz.f159 a159 = true := by kernel_rfl
theorem ok160 : agFunc Tryz.prog Tryz.f160 a160 = true := by kernel_rfl
theorem ok161 : agFunc Tryz.prog Tryz.f161 a161 = true := by kernel_rfl
theorem ok162 : agFunc Tryz.prog Tryz.f162 a162 = true := by kernel_rfl
theorem ok163 : agFunc Tryz.prog Tryz.f163 a163 = true := by kernel_rfl
theorem ok164 : agFunc Tryz.prog Tryz.f164 a164 = true := by kernel_rfl
theorem ok165 : agFunc Tryz.prog Tryz.f165 a165 = true := by kernel_rfl
theorem ok166 : agFunc Tryz.prog Tryz.f166 a166 = true := by kernel_rfl
theorem ok167 : agFunc Tryz.prog Tryz.f167 a167 = true := by kernel_rfl
theorem ok168 : agFunc Tryz.prog Tryz.f168 a168 = true := by kernel_rfl

end Go.Va
/-! The functions of part 2 stand for the program: made by program. -/
namespace Go.Va
open Go.Proofs

theorem ok169 : agFunc Tryz.prog Tryz.f169 a169 = true := by kernel_rfl
theorem ok170 : agFunc Tryz.prog Tryz.f170 a170 = true := by kernel_rfl
theorem ok171 : agFunc Tryz.prog Tryz.f171 a171 = true := by kernel_rfl
theorem ok172 : agFunc Tryz.prog Tryz.f172 a172 = true := by kernel_rfl
theorem ok173 : agFunc Tryz.prog Tryz.f173 a173 = true := by kernel_rfl
theorem ok174 : agFunc Tryz.prog Tryz.f174 a174 = true := by kernel_rfl
theorem ok175 : agFunc Tryz.prog Tryz.f175 a175 = true := by kernel_rfl
theorem ok176 : agFunc Tryz.prog Tryz.f176 a176 = true := by kernel_rfl
theorem ok177 : agFunc Tryz.prog Tryz.f177 a177 = true := by kernel_rfl
theorem ok191 : agFunc Tryz.prog Tryz.f191 a191 = true := by kernel_rfl
theorem ok192 : agFunc Tryz.prog Tryz.f192 a192 = true := by kernel_rfl
theorem ok193 : agFunc Tryz.prog Tryz.f193 a193 = true := by kernel_rfl
theorem ok194 : agFunc Tryz.prog Tryz.f194 a194 = true := by kernel_rfl
theorem ok195 : agFunc Tryz.prog Tryz.f195 a195 = true := by kernel_rfl
theorem ok196 : agFunc Tryz.prog Tryz.f196 a196 = true := by kernel_rfl
theorem ok197 : agFunc Tryz.prog Tryz.f197 a197 = true := by kernel_rfl
theorem ok198 : agFunc Tryz.prog Tryz.f198 a198 = true := by kernel_rfl
theorem ok199 : agFunc Tryz.prog Tryz.f199 a199 = true := by kernel_rfl
theorem ok200 : agFunc Tryz.prog Tryz.f200 a200 = true := by kernel_rfl
theorem ok201 : agFunc Tryz.prog Tryz.f201 a201 = true := by kernel_rfl
theorem ok202 : agFunc Tryz.prog Tryz.f202 a202 = true := by kernel_rfl
theorem ok203 : agFunc Tryz.prog Tryz.f203 a203 = true := by kernel_rfl
theorem ok204 : agFunc Tryz.prog Tryz.f204 a204 = true := by kernel_rfl
theorem ok205 : agFunc Tryz.prog Tryz.f205 a205 = true := by kernel_rfl
theorem ok206 : agFunc Tryz.prog Tryz.f206 a206 = true := by kernel_rfl
theorem ok208 : agFunc Tryz.prog Tryz.f208 a208 = true := by kernel_rfl
theorem ok209 : agFunc Tryz.prog Tryz.f209 a209 = true := by kernel_rfl
theorem ok210 : agFunc Tryz.prog Tryz.f210 a210 = true := by kernel_rfl
theorem ok224 : agFunc Tryz.prog Tryz.f224 a224 = true := by kernel_rfl
theorem ok225 : agFunc Tryz.prog Tryz.f225 a225 = true := by kernel_rfl
theorem ok226 : agFunc Tryz.prog Tryz.f226 a226 = true := by kernel_rfl
theorem ok227 : agFunc Tryz.prog Tryz.f227 a227 = true := by kernel_rfl
theorem ok228 : agFunc Tryz.prog Tryz.f228 a228 = true := by kernel_rfl
theorem ok229 : agFunc Tryz.prog Tryz.f229 a229 = true := by kernel_rfl
theorem ok230 : agFunc Tryz.prog Tryz.f230 a230 = true := by kernel_rfl
theorem ok231 : agFunc Tryz.prog Tryz.f231 a231 = true := by kernel_rfl
theorem ok232 : agFunc Tryz.prog Tryz.f232 a232 = true := by kernel_rfl
theorem ok233 : agFunc Tryz.prog Tryz.f233 a233 = true := by kernel_rfl
theorem ok235 : agFunc Tryz.prog Tryz.f235 a235 = true := by kernel_rfl
theorem ok236 : agFunc Tryz.prog Tryz.f236 a236 = true := by kernel_rfl
theorem ok237 : agFunc Tryz.prog Tryz.f237 a237 = true := by kernel_rfl
theorem ok238 : agFunc Tryz.prog Tryz.f238 a238 = true := by kernel_rfl
theorem ok251 : agFunc Tryz.prog Tryz.f251 a251 = true := by kernel_rfl
theorem ok252 : agFunc Tryz.prog Tryz.f252 a252 = true := by kernel_rfl
theorem ok253 : agFunc Tryz.prog Tryz.f253 a253 = true := by kernel_rfl
theorem ok254 : agFunc Tryz.prog Tryz.f254 a254 = true := by kernel_rfl
theorem ok255 : agFunc Tryz.prog Tryz.f255 a255 = true := by kernel_rfl
theorem ok256 : agFunc Tryz.prog Tryz.f256 a256 = true := by kernel_rfl
theorem ok261 : agFunc Tryz.prog Tryz.f261 a261 = true := by kernel_rfl
theorem ok262 : agFunc Tryz.prog Tryz.f262 a262 = true := by kernel_rfl
theorem ok263 : agFunc Tryz.prog Tryz.f263 a263 = true := by kernel_rfl

end Go.Va
/-! Functions of the library that are given by hand to the abstract machine: they stand for the program's. -/
namespace Go.Va
open Go.Proofs

variable {g : G}

theorem RL_one {x : AV} {l : List Value} (h : RL g [x] l) : ∃ v, l = [v] ∧ R g x v := by
  simp only [RL] at h
  obtain ⟨v, r, rfl, h1, rfl⟩ := h
  exact ⟨v, rfl, h1⟩

theorem RL_three {x y z : AV} {l : List Value} (h : RL g [x, y, z] l) : ∃ a b c, l = [a, b, c] ∧ R g x a ∧ R g y b ∧ R g z c := by
  simp only [RL] at h
  obtain ⟨v, r, rfl, h1, v2, r2, rfl, h2, v3, r3, rfl, h3, rfl⟩ := h
  exact ⟨v, v2, v3, rfl, h1, h2, h3⟩

theorem Ret.same {h : H} {w : World} {v : AV} {cv : Value} (hr : R g v cv) (hw : WOk g h.objs.get w) (hnd : Nd h.objs) (hf : Fresh g (· < h.cnt)) : Ret g h w v h cv w :=
  ⟨g, hr, hw, hnd, hf, Left.refl _ _ _⟩

theorem R_pair {a b : Int} : R g (.tup [.int .u64 a, .int .u64 b]) (.tuple #[.int .u64 a, .int .u64 b]) := by
  simp only [R, RL]
  exact ⟨[.int .u64 a, .int .u64 b], rfl, _, _, rfl, rfl, _, _, rfl, rfl, rfl⟩

theorem prim207 : PrimOk Tryz.prog 207 primAdd64 := by
  intro args h v h' hp g w cargs hw hnd hf _ hr
  unfold primAdd64 at hp
  split at hp
  · rename_i h0 x y c
    split at hp
    · rename_i hc
      simp only [Option.some.injEq, Prod.mk.injEq] at hp
      obtain ⟨rfl, rfl⟩ := hp
      obtain ⟨a, b, d, rfl, h1, h2, h3⟩ := RL_three hr
      simp only [R] at h1 h2 h3
      subst h1 h2 h3
      refine .inl ⟨_, w, ?_, Ret.same R_pair hw hnd hf⟩
      have e := run_callFunc_extern Tryz.func207 (by kernel_rfl) (by kernel_rfl) (by kernel_rfl) (e := add64Entry) (by kernel_rfl) #[.int .u64 x, .int .u64 y, .int .u64 c] w
      rw [e, run_add64 x y c hc.1 hc.2.1 hc.2.2.1 hc.2.2.2]
      rfl
    · cases hp
  · cases hp

def sub64Entry : Array Value → Sem Value := fun args => do
  let (x, y, b) ← Extern.MathBitsCarry.three "Sub64" args
  pure (Extern.MathBitsCarry.pair ((x + Extern.MathBitsCarry.m64 - y - b) % Extern.MathBitsCarry.m64) (if x < y + b then 1 else 0))

theorem run_sub64 {P : Program} (x y c : Int) (hx : 0 ≤ x) (hy : 0 ≤ y) (hy2 : y ≤ 18446744073709551615) (hc0 : 0 ≤ c) (hc : c ≤ 1) (w : World) :
    (sub64Entry #[.int .u64 x, .int .u64 y, .int .u64 c]).run P w =
      .ok (.tuple #[.int .u64 ((x + 18446744073709551616 - y - c) % 18446744073709551616), .int .u64 (if x < y + c then 1 else 0)]) w := by
  have key : ∀ k : Nat, k ≤ 1 → (sub64Entry #[.int .u64 x, .int .u64 y, .int .u64 (k : Int)]).run P w =
      .ok (Extern.MathBitsCarry.pair ((x.toNat + Extern.MathBitsCarry.m64 - y.toNat - k) % Extern.MathBitsCarry.m64) (if x.toNat < y.toNat + k then 1 else 0)) w := by
    intro k hk
    have : k = 0 ∨ k = 1 := by omega
    rcases this with rfl | rfl <;> rfl
  obtain ⟨k, rfl⟩ := Int.eq_ofNat_of_zero_le hc0
  rw [key k (by omega)]
  obtain ⟨X, rfl⟩ := Int.eq_ofNat_of_zero_le hx
  obtain ⟨Y, rfl⟩ := Int.eq_ofNat_of_zero_le hy
  simp only [Extern.MathBitsCarry.pair, Extern.MathBitsCarry.m64, Int.toNat_natCast]
  have e1 : (((X + 2 ^ 64 - Y - k) % 2 ^ 64 : Nat) : Int) = ((X : Int) + 18446744073709551616 - Y - k) % 18446744073709551616 := by omega
  have e2 : ((if X < Y + k then 1 else 0 : Nat) : Int) = if (X : Int) < Y + k then 1 else 0 := by
    by_cases h : X < Y + k
    · rw [if_pos h, if_pos (by omega)]; rfl
    · rw [if_neg h, if_neg (by omega)]; rfl
  show Result.ok (Value.tuple #[.int .u64 (((X + 2 ^ 64 - Y - k) % 2 ^ 64 : Nat) : Int), .int .u64 ((if X < Y + k then 1 else 0 : Nat) : Int)]) w = _
  rw [e1, e2]

theorem prim234 : PrimOk Tryz.prog 234 primSub64 := by
  intro args h v h' hp g w cargs hw hnd hf _ hr
  unfold primSub64 at hp
  split at hp
  · rename_i h0 x y c
    split at hp
    · rename_i hc
      simp only [Option.some.injEq, Prod.mk.injEq] at hp
      obtain ⟨rfl, rfl⟩ := hp
      obtain ⟨a, b, d, rfl, h1, h2, h3⟩ := RL_three hr
      simp only [R] at h1 h2 h3
      subst h1 h2 h3
      refine .inl ⟨_, w, ?_, Ret.same R_pair hw hnd hf⟩
      have e := run_callFunc_extern Tryz.func234 (by kernel_rfl) (by kernel_rfl) (by kernel_rfl) (e := sub64Entry) (by kernel_rfl) #[.int .u64 x, .int .u64 y, .int .u64 c] w
      rw [e, run_sub64 x y c hc.1 hc.2.1 hc.2.2.1 hc.2.2.2.1 hc.2.2.2.2]
      rfl
    · cases hp
  · cases hp

def cNone : CallF := fun _ _ _ _ => none

theorem cNone_ok {P : Program} : CallOk P cNone := fun _ _ _ _ _ _ h => by cases h

/-- where a body ends -/
theorem fin_ok {P : Program} {fn : Func} {res : List ResV} (h2 : agRes P fn.results.toList res = true) {out : Out} {h h' : H} {w w' : World} {t' : T} {N : Nat} {e : Exit} {a' : Act} {l : List AV} (hout : ∀ i, out ≠ .exit i)
    (hres : resultsV t' h'.objs res = some l) (hpost : Post out g h w t' h' N e a' w') {post : Value → World → Prop}
    (hp : ∀ g' cv, R g' (pack l) cv → WOk g' h'.objs.get w' → Nd h'.objs → Fresh g' (· < h'.cnt) → h'.ro ≤ h'.cnt → Left g h w g' h' w' → post cv w') : bodyPost P fn (fun e w' => ∃ v, e = .returned v ∧ post v w') e a' w' := by
  obtain ⟨ho, hd, hn, g', hi', hl⟩ := hpost
  obtain ⟨cv, hcv, hR⟩ := run_results (P := P) h2 hi'.tok hi'.wok hres
  have fin := hp g' cv hR hi'.wok hi'.nd hi'.fresh hi'.ro hl
  cases e with
  | normal => exact ⟨hd, cv, hcv, cv, rfl, fin⟩
  | ret => exact ⟨hd, cv, hcv, cv, rfl, fin⟩
  | exit i =>
    cases out with
    | exit j => exact absurd rfl (hout j)
    | norm => exact ho.elim
    | ret => exact ho.elim
  | _ => cases out <;> exact ho.elim

theorem R_lim {b : Bool} {xs : List AV} {v : Value} (h : R g (.slT b xs) v) : R g (.slT false xs) v := by
  simp only [R] at h ⊢
  obtain ⟨a, c, h1, h2, _, h4⟩ := h
  exact ⟨a, c, h1, h2, by simp, h4⟩

/-- what is copied is a slice; of a nil one nothing -/
theorem src_slice {os : Objs} {sh : Sh} {k n : Nat} {x : AV} {src : List AV} {cv : Value} (h : srcCells os sh k x = some (n, src)) (hr : R g x cv) : ∃ a c, cv = .slice a n c ∧ (a = none → n = 0) := by
  unfold srcCells at h
  split at h
  · rename_i lim xs
    split at h
    · simp only [Option.some.injEq, Prod.mk.injEq] at h
      obtain ⟨rfl, _⟩ := h
      simp only [R] at hr
      obtain ⟨a, c, rfl, _, _, h4⟩ := hr
      refine ⟨a, c, rfl, fun ha => ?_⟩
      cases xs with
      | nil => rfl
      | cons y ys =>
        obtain ⟨b, o, w, e, _⟩ := h4 (by simp)
        rw [ha] at e; cases e
    · cases h
  · split at h
    · cases h
    · split at h
      · split at h
        · simp only [Option.some.injEq, Prod.mk.injEq] at h
          obtain ⟨rfl, _⟩ := h
          simp only [R] at hr
          rcases hr with ⟨_, _, rfl, rfl⟩ | ⟨b, s, c, _, rfl, _⟩
          · exact ⟨none, 0, rfl, fun _ => rfl⟩
          · exact ⟨_, c, rfl, fun ha => (by cases ha)⟩
        · cases h
      · cases h
  · cases h

theorem hmO : Tryz.prog.follows .mixedOrders = true := by kernel_rfl

theorem eval_tmp {a : Act} {n : Nat} : a.eval (.tmp n) = a.tmps.getD n undef := rfl

theorem prim54 : PrimOk Tryz.prog 54 (primCloneN (.many 2) 16) := by
  intro args h v h' hp g w cargs hw hnd hf hro hr
  obtain ⟨x, rfl⟩ : ∃ x, args = [x] := by
    match args, hp with
    | [x], _ => exact ⟨x, rfl⟩
    | [], hp => cases hp
    | _ :: _ :: _, hp => cases hp
  simp only [primCloneN] at hp
  split at hp
  · rename_i n src hsrc
    obtain ⟨cv, rfl, hx⟩ := RL_one hr
    obtain ⟨a, c, rfl, hn⟩ := src_slice hsrc hx
    refine .inr ⟨run_callFunc_body Tryz.func54 (by kernel_rfl) rfl _ _, calls_of_wp Tryz.func54 rfl ?_⟩
    have st0 : St g (T.ofArgs 0 [x]) h 8 { tmps := #[Value.slice a n c] ++ Array.replicate (Tryz.f54.ntmps - 1) undef, defers := [] } w :=
      ⟨⟨ofArgs_tok hr _, hw, hnd, hf, hro⟩, by simp, rfl⟩
    let l0 : List AOpr := [⟨some 2, .mov (.c (.slT true [])), none⟩]
    refine wp_seq (wp_mono (region_ok cNone_ok hmO (l := l0) (ex := []) (t := T.ofArgs 0 [x]) (h := h) (N := 8) (t' := [(2, .slT true []), (0, x)]) (h' := { h with cnt := h.cnt + 1 }) (by kernel_rfl) (fun hh => by cases hh) rfl rfl st0) fun e a1 w1 hpo => norm_then hpo.1 ?_)
    obtain ⟨_, hd1, hs1, g1, i1, l1⟩ := hpo
    -- the copied slice is asked whether it is nil
    have hx1 : ∃ a c, a1.tmps.getD 0 undef = .slice a n c ∧ (a = none → n = 0) := src_slice hsrc (i1.tok 0) 
    clear hn
    obtain ⟨a, c, hv0, hn⟩ := hx1
    refine wp_seq (wp_seq (wp_region ?_))
    show wpOps _ _ _ [0, 1] a1 w1
    rw [wpOps_cons]
    unfold wpOp
    simp only [Region.wanted, List.getElem?_toArray, List.getElem?_cons_zero, if_true]
    refine .inl (StepTo.value (cv := .slice a n c) (w' := w1) (post := fun cv w' => cv = .slice a n c ∧ w' = w1) (by rw [← hv0]; rfl) (.inl rfl) ⟨rfl, rfl⟩ _ _ fun cv w' hq => ?_)
    obtain ⟨rfl, rfl⟩ := hq
    rw [wpOps_cons]
    unfold wpOp
    simp only [Region.wanted, List.getElem?_toArray, List.getElem?_cons_zero, List.getElem?_cons_succ, if_true]
    have hput3 : ((a1.put (some 3) (.slice a n c)).eval (.tmp 3)) = .slice a n c := by
      rw [eval_tmp, put_tmps _ _ _ _ (fun m hm => by cases hm; exact Nat.lt_of_lt_of_le (by decide) hs1)]
      simp
    refine .inl (StepTo.value (cv := .bool a.isNone) (w' := w') (post := fun cv w2 => cv = .bool a.isNone ∧ w2 = w') ?_ (.inl rfl) ⟨rfl, rfl⟩ _ _ fun cv w2 hq => ?_)
    · have hput3' : (a1.put (some 3) (.slice a n c)).tmps[3]?.getD undef = .slice a n c := by
        have := hput3
        rw [eval_tmp, Array.getD_eq_getD_getElem?] at this
        exact this
      simp only [execOp, Act.eval]
      simp only [binOp]
      simp [eqGuard, hput3', run_equal_slice_nil _ 22 _ a n c Tryz.underlying22]
    obtain ⟨rfl, rfl⟩ := hq
    have lt3 : ∀ m, (some 3 : Option Nat) = some m → m < a1.tmps.size := fun m hm => by cases hm; exact Nat.lt_of_lt_of_le (by decide) hs1
    have lt4 : ∀ m, (some 4 : Option Nat) = some m → m < (a1.put (some 3) (.slice a n c)).tmps.size := fun m hm => by cases hm; rw [put_size]; exact Nat.lt_of_lt_of_le (by decide) hs1
    have tok3 : TOk g1 (T.get (T.put [(2, .slT true []), (0, x)] (some 3) x)) (a1.put (some 3) (.slice a n c)).tmps := i1.tok.put lt3 (by rw [← hv0]; exact i1.tok 0)
    have tok4 : TOk g1 (T.get (T.put (T.put [(2, .slT true []), (0, x)] (some 3) x) (some 4) .bot)) ((a1.put (some 3) (.slice a n c)).put (some 4) (.bool a.isNone)).tmps := tok3.put lt4 trivial
    have ev4 : ((a1.put (some 3) (.slice a n c)).put (some 4) (.bool a.isNone)).eval (.tmp 4) = .bool a.isNone := by
      rw [eval_tmp, put_tmps _ _ _ _ lt4]
      simp
    generalize hb : (a1.put (some 3) (.slice a n c)).put (some 4) (.bool a.isNone) = b at tok4 ev4
    have st4 : St g1 (T.put (T.put [(2, .slT true []), (0, x)] (some 3) x) (some 4) .bot) { h with cnt := h.cnt + 1 } 8 b w2 := by
      rw [← hb]
      exact ⟨⟨by rw [hb]; exact tok4, i1.wok, i1.nd, i1.fresh, i1.ro⟩, by rw [put_size, put_size]; exact hs1, by rw [put_defers', put_defers']; exact hd1⟩
    show wpOps _ _ _ [] b w2
    simp only [wpOps]
    have fin : ∀ {os : Objs} {k : Nat} {t : T} {r : AV} {e : Exit} {a3 : Act} {w3 : World}, k ≤ 5 → t.get 2 = r → Post .ret g1 { h with cnt := h.cnt + 1 } w2 t { h with objs := os, cnt := h.cnt + k } 8 e a3 w3 → (∀ {g' : G} {cv : Value}, R g' r cv → R g' v cv) → h' = { h with objs := os, cnt := h.cnt + 5 } →
        bodyPost Tryz.prog Tryz.f54 (fun e w' => ∃ v', e = .returned v' ∧ Ret g h w v h' v' w') e a3 w3 := by
      intro os k t r e a3 w3 hk ht hpo hrv hh
      refine fin_ok (res := [.t 2]) (by kernel_rfl) (fun i hi => by cases hi) (l := [r]) (by simp only [resultsV, ht]) hpo fun g' cv q1 q2 q3 q4 q5 q6 => ?_
      subst hh
      refine ⟨g', hrv q1, q2, q3, fun k' ver hk' => q4 k' ver (by simp only at hk' ⊢; omega), ?_⟩
      have q7 := l1.trans q6
      exact ⟨q7.tr, by simp only; omega, q7.ro, q7.low⟩
    refine wp_cond ev4 ?_
    cases a with
    | none =>
      have hn0 := hn rfl
      subst hn0
      rw [if_pos (by rfl)] at hp; simp only [Option.some.injEq, Prod.mk.injEq] at hp
      simp only [Option.isNone_none, if_true]
      refine wp_seq (wp_mono (region_ok cNone_ok hmO (l := l0) (ex := []) (t := T.put (T.put [(2, .slT true []), (0, x)] (some 3) x) (some 4) .bot) (h := { h with cnt := h.cnt + 1 }) (N := 8)
        (t' := T.put (T.put (T.put [(2, .slT true []), (0, x)] (some 3) x) (some 4) .bot) (some 2) (.slT true [])) (h' := { h with cnt := h.cnt + 1 + 1 }) (by kernel_rfl) (fun hh => by cases hh) rfl rfl st4) fun e a3 w3 hpo => norm_then hpo.1 (wp_ret ?_))
      obtain ⟨_, p2, p3, g2, i2, l2⟩ := hpo
      exact fin (e := .ret) (os := h.objs) (k := 2) (t := T.put (T.put (T.put [(2, .slT true []), (0, x)] (some 3) x) (some 4) .bot) (some 2) (.slT true [])) (r := .slT true []) (by omega) rfl ⟨trivial, p2, p3, g2, i2, l2⟩ (fun hq => by rw [← hp.1]; exact R_lim hq) hp.2.symm
    | some ad =>
      simp only [Option.isNone_some, Bool.false_eq_true, if_false]
      refine wp_skip ?_
      let l3 : List AOpr := [⟨some 5, .mkSl [.int .i64 0, .int .i64 0] (.many 2) 0 [], none⟩, ⟨some 6, .mov (.t 0), none⟩, ⟨some 7, .appN (.many 2) 16 (.t 5) (.t 6), none⟩, ⟨some 2, .mov (.t 7), none⟩]
      have key : ∀ (r : AV) (ob : Option Obj) (os : Objs), appNV h.objs (h.cnt + 1 + 2) (.many 2) 16 (.slT true []) x = some (r, ob) → os = (match ob with | some o => (h.cnt + 1 + 2, o) :: h.objs | none => h.objs) →
          (∀ {g' : G} {cv : Value}, R g' r cv → R g' v cv) → h' = { h with objs := os, cnt := h.cnt + 5 } →
          (Code.seq (.region 3 #[⟨some 5, .buildSlice 22 0 #[], 22, "slices.go:362", #[], none⟩, ⟨some 6, .move (.tmp 0), 22, "slices.go:362", #[], none⟩, ⟨some 7, .call ⟨.builtin .append, #[.tmp 5, .tmp 6], #[22, 22]⟩, 22, "slices.go:362", #[⟨0, .data⟩, ⟨1, .data⟩], none⟩, ⟨some 2, .assign (.tmp 7), 22, "slices.go:362", #[⟨2, .data⟩, ⟨2, .chain⟩, ⟨0, .phase⟩, ⟨1, .phase⟩, ⟨2, .phase⟩], none⟩] false) .ret).wp Tryz.prog (bodyPost Tryz.prog Tryz.f54 (fun e w' => ∃ v', e = .returned v' ∧ Ret g h w v h' v' w')) b w2 := by
        intro r ob os happ hos hrv hh
        have hrun : runOps cNone false (h.cnt + 1) 0 l3 (T.put (T.put [(2, .slT true []), (0, x)] (some 3) x) (some 4) .bot) { h with cnt := h.cnt + 1 + l3.length } =
            some (T.put (T.put (T.put (T.put (T.put (T.put [(2, .slT true []), (0, x)] (some 3) x) (some 4) .bot) (some 5) (.slT true [])) (some 6) x) (some 7) r) (some 2) r, { h with objs := os, cnt := h.cnt + 1 + 4 }) := by
          cases ob with
          | none =>
            subst hos
            simp [l3, runOps, stepV, AOp.kd, inertV, allocV, Opd.ev, T.put, T.get, happ, fillV, replicateCells, AV.datas, elemsOf]
          | some o =>
            subst hos
            simp [l3, runOps, stepV, AOp.kd, inertV, allocV, Opd.ev, T.put, T.get, happ, fillV, replicateCells, AV.datas, elemsOf]
        refine wp_seq (wp_mono (region_ok cNone_ok hmO (l := l3) (ex := []) (N := 8) (by kernel_rfl) (fun hh => by cases hh) rfl hrun st4) fun e a3 w3 hpo => norm_then hpo.1 (wp_ret ?_))
        obtain ⟨_, p2, p3, g2, i2, l2⟩ := hpo
        exact fin (e := .ret) (os := os) (k := 5) (by omega) rfl ⟨trivial, p2, p3, g2, i2, l2⟩ hrv hh
      have hsrc' : srcCells h.objs (.many 2) (h.cnt + 1 + 2) x = some (n, src) := hsrc
      by_cases h0 : n = 0
      · subst h0
        rw [if_pos (by rfl)] at hp; simp only [Option.some.injEq, Prod.mk.injEq] at hp
        exact key (.slT true []) none h.objs (by simp [appNV, hsrc']) rfl (fun hq => by rw [← hp.1]; exact R_lim hq) hp.2.symm
      · have hb0 : Nat.beq n 0 = false := by rw [← Bool.not_eq_true, Nat.beq_eq]; exact h0
        simp only [hb0, Bool.false_eq_true, if_false] at hp
        split at hp
        · rename_i hrm
          simp only [Option.some.injEq, Prod.mk.injEq] at hp
          exact key (.slR (h.cnt + 3) 0 0 n (Sh.many 2).size (Sh.many 2).ag) (some (.arr 0 false src)) _ (by simp [appNV, hsrc', hb0, hrm]) rfl (fun hq => by rw [← hp.1]; exact hq) hp.2.symm
        · cases hp
  · cases hp

def OkE (P : Program) (f : FuncId) (e : Entry) : Prop := match e with
  | .code af => ∃ fn, P.funcs[f]? = some fn ∧ agFunc P fn af = true
  | .prim p => PrimOk P f p

theorem leaf {P : Program} {n : Nat} {fn : Func} {af : AFunc} (hf : P.funcs[n]? = some fn) (h : agFunc P fn af = true) {f : FuncId} {e : Entry} (hx : (if Nat.beq f n then some (Entry.code af) else none) = some e) : OkE P f e := by
  split at hx
  · rename_i hb
    rw [Nat.beq_eq] at hb
    subst hb
    simp only [Option.some.injEq] at hx
    subst hx
    exact ⟨fn, hf, h⟩
  · cases hx

theorem leaf_p {P : Program} {n : Nat} {p : List AV → H → Option (AV × H)} (h : PrimOk P n p) {f : FuncId} {e : Entry} (hx : (if Nat.beq f n then some (Entry.prim p) else none) = some e) : OkE P f e := by
  split at hx
  · rename_i hb
    rw [Nat.beq_eq] at hb
    subst hb
    simp only [Option.some.injEq] at hx
    subst hx
    exact h
  · cases hx

theorem node {P : Program} {c : Bool} {A B : Option Entry} {f : FuncId} {e : Entry} (h1 : A = some e → OkE P f e) (h2 : B = some e → OkE P f e) (hx : (if c then A else B) = some e) : OkE P f e := by
  split at hx
  · exact h1 hx
  · exact h2 hx

end Go.Va
/-! The table stands for the program: made by program. -/
namespace Go.Va
open Go.Proofs

theorem tab_ok : TabOk Tryz.prog tab := by
  intro f e h
  unfold tab at h
  exact (node (node (node (node (node (node (node (leaf Tryz.func7 ok7) (leaf Tryz.func12 ok12)) (node (leaf Tryz.func13 ok13) (leaf Tryz.func14 ok14))) (node (node (leaf Tryz.func15 ok15) (leaf Tryz.func18 ok18)) (node (leaf Tryz.func21 ok21) (leaf Tryz.func25 ok25)))) (node (node (node (leaf Tryz.func26 ok26) (leaf Tryz.func30 ok30)) (node (leaf Tryz.func31 ok31) (leaf Tryz.func41 ok41))) (node (node (leaf Tryz.func50 ok50) (leaf Tryz.func51 ok51)) (node (leaf Tryz.func52 ok52) (leaf Tryz.func53 ok53))))) (node (node (node (node (leaf_p prim54) (leaf Tryz.func55 ok55)) (node (leaf Tryz.func56 ok56) (leaf Tryz.func57 ok57))) (node (node (leaf Tryz.func58 ok58) (leaf Tryz.func59 ok59)) (node (leaf Tryz.func60 ok60) (leaf Tryz.func61 ok61)))) (node (node (node (leaf Tryz.func62 ok62) (leaf Tryz.func63 ok63)) (node (leaf Tryz.func71 ok71) (leaf Tryz.func72 ok72))) (node (node (leaf Tryz.func73 ok73) (leaf Tryz.func74 ok74)) (node (leaf Tryz.func78 ok78) (node (leaf Tryz.func79 ok79) (leaf Tryz.func80 ok80))))))) (node (node (node (node (node (leaf Tryz.func90 ok90) (leaf Tryz.func92 ok92)) (node (leaf Tryz.func93 ok93) (leaf Tryz.func94 ok94))) (node (node (leaf Tryz.func95 ok95) (leaf Tryz.func96 ok96)) (node (leaf Tryz.func97 ok97) (leaf Tryz.func98 ok98)))) (node (node (node (leaf Tryz.func109 ok109) (leaf Tryz.func110 ok110)) (node (leaf Tryz.func111 ok111) (leaf Tryz.func112 ok112))) (node (node (leaf Tryz.func113 ok113) (leaf Tryz.func114 ok114)) (node (leaf Tryz.func115 ok115) (node (leaf Tryz.func116 ok116) (leaf Tryz.func117 ok117)))))) (node (node (node (node (leaf Tryz.func118 ok118) (leaf Tryz.func119 ok119)) (node (leaf Tryz.func120 ok120) (leaf Tryz.func121 ok121))) (node (node (leaf Tryz.func122 ok122) (leaf Tryz.func123 ok123)) (node (leaf Tryz.func124 ok124) (leaf Tryz.func125 ok125)))) (node (node (node (leaf Tryz.func138 ok138) (leaf Tryz.func139 ok139)) (node (leaf Tryz.func140 ok140) (leaf Tryz.func141 ok141))) (node (node (leaf Tryz.func142 ok142) (leaf Tryz.func143 ok143)) (node (leaf Tryz.func144 ok144) (node (leaf Tryz.func145 ok145) (leaf Tryz.func146 ok146)))))))) (node (node (node (node (node (node (leaf Tryz.func147 ok147) (leaf Tryz.func148 ok148)) (node (leaf Tryz.func157 ok157) (leaf Tryz.func158 ok158))) (node (node (leaf Tryz.func159 ok159) (leaf Tryz.func160 ok160)) (node (leaf Tryz.func161 ok161) (leaf Tryz.func162 ok162)))) (node (node (node (leaf Tryz.func163 ok163) (leaf Tryz.func164 ok164)) (node (leaf Tryz.func165 ok165) (leaf Tryz.func166 ok166))) (node (node (leaf Tryz.func167 ok167) (leaf Tryz.func168 ok168)) (node (leaf Tryz.func169 ok169) (leaf Tryz.func170 ok170))))) (node (node (node (node (leaf Tryz.func171 ok171) (leaf Tryz.func172 ok172)) (node (leaf Tryz.func173 ok173) (leaf Tryz.func174 ok174))) (node (node (leaf Tryz.func175 ok175) (leaf Tryz.func176 ok176)) (node (leaf Tryz.func177 ok177) (leaf Tryz.func191 ok191)))) (node (node (node (leaf Tryz.func192 ok192) (leaf Tryz.func193 ok193)) (node (leaf Tryz.func194 ok194) (leaf Tryz.func195 ok195))) (node (node (leaf Tryz.func196 ok196) (leaf Tryz.func197 ok197)) (node (leaf Tryz.func198 ok198) (node (leaf Tryz.func199 ok199) (leaf Tryz.func200 ok200))))))) (node (node (node (node (node (leaf Tryz.func201 ok201) (leaf Tryz.func202 ok202)) (node (leaf Tryz.func203 ok203) (leaf Tryz.func204 ok204))) (node (node (leaf Tryz.func205 ok205) (leaf Tryz.func206 ok206)) (node (leaf_p prim207) (leaf Tryz.func208 ok208)))) (node (node (node (leaf Tryz.func209 ok209) (leaf Tryz.func210 ok210)) (node (leaf Tryz.func224 ok224) (leaf Tryz.func225 ok225))) (node (node (leaf Tryz.func226 ok226) (leaf Tryz.func227 ok227)) (node (leaf Tryz.func228 ok228) (node (leaf Tryz.func229 ok229) (leaf Tryz.func230 ok230)))))) (node (node (node (node (leaf Tryz.func231 ok231) (leaf Tryz.func232 ok232)) (node (leaf Tryz.func233 ok233) (leaf_p prim234))) (node (node (leaf Tryz.func235 ok235) (leaf Tryz.func236 ok236)) (node (leaf Tryz.func237 ok237) (leaf Tryz.func238 ok238)))) (node (node (node (leaf Tryz.func251 ok251) (leaf Tryz.func252 ok252)) (node (leaf Tryz.func253 ok253) (leaf Tryz.func254 ok254))) (node (node (leaf Tryz.func255 ok255) (leaf Tryz.func256 ok256)) (node (leaf Tryz.func261 ok261) (node (leaf Tryz.func262 ok262) (leaf Tryz.func263 ok263))))))))) h

end Go.Va
