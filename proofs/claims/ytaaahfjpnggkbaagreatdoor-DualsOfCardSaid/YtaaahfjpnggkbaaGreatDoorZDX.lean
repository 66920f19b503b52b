import Derived.Test.YtaaahfjpnggkbaaGreatDoorZZ
import Derived.Test.YtaaahfjpnggkbaaGreatDoorZI
import Derived.Test.YtaaahfjpnggkbaaGreatDoorZDV
set_option linter.unusedSimpArgs false
set_option linter.unusedVariables false
set_option maxRecDepth 100000
set_option maxHeartbeats 20000000
namespace Go.Proofs.YtaaahfjpnggkbaaGreatDoor
open Go.RowKit
section
section
variable {α : Type} {F : Fence} {n : Nat} {P : Program}
def roundPostP (P : Program) (l : Nat) (R : Ending → World → Prop) : Exit → Act → World → Prop
 | .normal, _, w => ∃ v w', (Instr.endRound l none).run P w = .ok v w' ∧ R (.returned v) w'
 | .panic ch, a, w => a.defers = [] ∧ R (.panicked ch) w
 | _, _, _ => False
theorem xHs {l : Nat} {f : FuncId} {fnc : Func} {tmps : Array Value} {assign body : Code} {w : World} {R : Ending → World → Prop} (hfn : P.funcs[f]? = some fnc) (hF : F.fn f)
  (h : assign.wpIn (F.inRound l) n P (Exit.then (fun a₁ w₁ => ∃ w₂, (Instr.beginRound l).run P w₁ = .ok () w₂ ∧ body.wpIn (F.inRound l) n P (roundPostP P l R) a₁ w₂) (fun _ _ _ => False)) { tmps := tmps, defers := [] } w) :
  RoundIn F n P l f tmps assign body w R := by
 refine ⟨hF, fun c cs hr => ?_⟩
 let b : Frame := { (default : Frame) with fn := f, kind := .normal, roundOf := some l }
 have hb0 : Frame.round l f tmps assign body .normal = b.atR { tmps := tmps, defers := [] } [.code assign, .beginRound, .code body] := by
  simp [Frame.round, Frame.atR, b]
 have hr' : (F.inRound l).room ((c :: cs).length + 1 + n) := hr
 have hF' : (F.inRound l).fn b.fn := hF
 obtain ⟨e, a₁, w₁, hq, harr⟩ := h b [.beginRound, .code body] (c :: cs) rfl hF' hr'
 rw [← hb0] at harr
 cases e with
 | normal =>
  obtain ⟨w₂, hbr, hbody⟩ := hq
  have s1 : StepsIn (Machine.fenced P (F.inRound l)) P (lone (b.atR a₁ [.beginRound, .code body]) (c :: cs) w₁) (lone (b.atR a₁ [.code body]) (c :: cs) w₂) :=
   .one (fenced_calm (fr := b.atR a₁ [.beginRound, .code body]) hF' hr' rfl) (stepR_beginRound rfl hbr)
  obtain ⟨e₂, a₂, w₃, hq₂, harr₂⟩ := hbody b [] (c :: cs) rfl hF' hr'
  cases e₂ with
  | normal =>
   obtain ⟨v, w₄, hend, hR⟩ := hq₂
   exact ⟨.returned v, w₄, hR, (StepsIn.trans harr s1).trans (StepsIn.trans harr₂ (.one (fenced_calm (fr := b.atR a₂ []) hF' hr' rfl) (stepR_round_end rfl rfl hend)))⟩
  | panic chain =>
   obtain ⟨hd, hR⟩ := hq₂
   obtain ⟨todo, hs⟩ := harr₂
   have hlv : ({ b.atR a₂ todo with mode := .panicking chain } : Frame).leaving P w₃ (.panicked chain) := ⟨rfl, hd, fnc, hfn⟩
   exact ⟨.panicked chain, w₃, hR, (StepsIn.trans harr s1).trans (StepsIn.trans hs (.one (fenced_leaving (F := F.inRound l) (n := n) hF' hr' hlv) (step_leave_panicked hlv)))⟩
  | ret => exact hq₂.elim
  | exit id => exact hq₂.elim
  | goto t => exact hq₂.elim
  | outgrown => exact hq₂.elim
 | exit id => exact hq.elim
 | goto t => exact hq.elim
 | ret => exact hq.elim
 | panic chain => exact hq.elim
 | outgrown => exact hq.elim
def SeqP (F : Fence) (n : Nat) (P : Program) (g : Nat) (lb : Array Value) (encs : α → Array Value) (Kp : World → World → Prop) (S : List α → Prop) (N : Nat) (w : World) : Prop :=
 ∀ (l : Nat) (J : List α → World → Prop) (Jp : List PanicEntry → World → Prop) (W : World), Below w.heap.size w W →
  (∀ pre x W1, J pre W1 → pre.length < N → YieldAt F (n - 1) P l (encs x) W1 fun e W' =>
   (e = .returned (.bool true) ∧ J (pre ++ [x]) W' ∧ Kp W1 W') ∨ ∃ ch, e = .panicked ch ∧ Jp ch W') →
  J [] W →
  CallsIn F n P g (#[.func (.yield l) #[] #[]] ++ lb) W fun e W' => (∃ v, e = .returned v ∧ ∃ xs, S xs ∧ J xs W') ∨ ∃ ch, e = .panicked ch ∧ Jp ch W'
def ownPostP (Kp : World → World → Prop) (I : List α → World → Prop) (Ip : List PanicEntry → World → Prop) (xs : List α) (W : World) : Exit → Act → World → Prop
 | .normal, _, W' => KeepsOthers W W' ∧ Kp W W' ∧ I xs W'
 | .panic ch, a, W' => a.defers = [] ∧ Ip ch W' ∧ ∀ D : Nat, W.heap[D]? = some (Obj.deferred (some [])) → W'.heap[D]? = some (Obj.deferred (some []))
 | _, _, _ => False
def wpX (n : Nat) (P : Program) (c : Code) (Q : Exit → Act → World → Prop) (a : Act) (w : World) : Prop :=
 ∀ (b : Frame) (k : List Item) (cs : List Frame), b.roundOf = none → (∃ fnc, P.funcs[b.fn]? = some fnc) →
  ∃ e a' w', Q e a' w' ∧ ArrivesIn (Machine.fenced P Fence.wide) P (lone (b.atR a (.code c :: k)) cs w) b k cs e a' w'
section
variable {Q : Exit → Act → World → Prop} {a : Act} {w : World}
theorem wpX_of_wp {c : Code} (h : c.wp P Q a w) : wpX n P c Q a w := fun b k cs hro _ => (wpIn_wide (n := n)).2 h b k cs hro trivial (room_wide _)
theorem wpX_seq {x y : Code} (h : wpX n P x (Exit.then (wpX n P y Q) Q) a w) : wpX n P (Code.seq x y) Q a w := by
 intro b k cs hro hb
 have h0 : (lone (b.atR a (.code (.seq x y) :: k)) cs w).fenced P Fence.wide := fenced_wide _ _
 obtain ⟨e, a₁, w₁, hq, harr⟩ := h b (.code y :: k) cs hro hb
 cases e with
 | normal =>
  obtain ⟨e₂, a₂, w₂, hq₂, harr₂⟩ := hq b k cs hro hb
  exact ⟨e₂, a₂, w₂, hq₂, .of_steps (.head h0 stepR_seq harr) harr₂⟩
 | exit id => exact ⟨_, a₁, w₁, hq, .of_steps (.one h0 stepR_seq) (.pass (x := .code y) rfl (fun _ _ => .inl (by simp)) harr)⟩
 | goto l => exact ⟨_, a₁, w₁, hq, .of_steps (.one h0 stepR_seq) (.pass (x := .code y) rfl (fun _ _ => .inl (by simp)) harr)⟩
 | ret => exact ⟨_, a₁, w₁, hq, .of_steps (.one h0 stepR_seq) (.pass (x := .code y) rfl (fun _ _ => .inl (by simp)) harr)⟩
 | panic ch => exact ⟨_, a₁, w₁, hq, .of_steps (.one h0 stepR_seq) (.pass (x := .code y) rfl (fun _ _ => .inl (by simp)) harr)⟩
 | outgrown => exact ⟨_, a₁, w₁, hq, .of_steps (.one h0 stepR_seq) (.pass (x := .code y) rfl (fun _ _ => .inl (by simp)) harr)⟩
theorem wpX_block {id : Nat} {c : Code} (h : wpX n P c (Exit.inBlock id Q) a w) : wpX n P (Code.block id c) Q a w := by
 intro b k cs hro hb
 have h0 : (lone (b.atR a (.code (.block id c) :: k)) cs w).fenced P Fence.wide := fenced_wide _ _
 obtain ⟨e, a₁, w₁, hq, harr⟩ := h b (.inBlock id :: k) cs hro hb
 cases e with
 | normal => exact ⟨.normal, a₁, w₁, hq, .head h0 stepR_block (StepsIn.trans harr (.one (fenced_wide _ _) stepR_inBlock))⟩
 | exit id' =>
  by_cases hid : id' = id
  ·simp only [Exit.inBlock, hid, if_true] at hq
   exact ⟨.normal, a₁, w₁, hq, .head h0 stepR_block (harr.1 k (by simp [exitTo, hid]))⟩
  ·simp only [Exit.inBlock, hid, if_false] at hq
   have this : (id == id') = false := by simp; exact fun h => hid h.symm
   have hx : exitTo id' (.inBlock id :: k) = exitTo id' k := by simp [exitTo, this]
   exact ⟨.exit id', a₁, w₁, hq, fun k' hk => .head h0 stepR_block (harr.1 k' (by rw [hx]; exact hk)),
    fun hr' hk => let ⟨k₁, h1, h2⟩ := harr.2 hr' (by rw [hx]; exact hk); ⟨k₁, h1, .head h0 stepR_block h2⟩⟩
 | goto l =>
  have hx : gotoIn l (.inBlock id :: k) = gotoIn l k := by simp [gotoIn]
  exact ⟨_, a₁, w₁, hq, fun k' hk => .head h0 stepR_block (harr.1 k' (by rw [hx]; exact hk)),
   fun hr' hk => let ⟨k₁, h1, h2⟩ := harr.2 hr' (by rw [hx]; exact hk); ⟨k₁, h1, .head h0 stepR_block h2⟩⟩
 | ret => exact ⟨_, a₁, w₁, hq, .of_steps (.one h0 stepR_block) harr⟩
 | panic ch => exact ⟨_, a₁, w₁, hq, .of_steps (.one h0 stepR_block) harr⟩
 | outgrown => exact ⟨_, a₁, w₁, hq, .of_steps (.one h0 stepR_block) harr⟩
def roundsX (n : Nat) (P : Program) (c : Code) (Q : Exit → Act → World → Prop) : Nat → Act → World → Prop
 | 0, _, _ => False
 | m + 1, a, w => wpX n P c (Exit.then (roundsX n P c Q m) Q) a w
theorem xIv {c : Code} (m : Nat) (h : roundsX n P c Q m a w) : wpX n P (Code.loop c) Q a w := by
 intro b k cs hro hb
 have key : ∀ m a w, roundsX n P c Q m a w →
   ∃ e a' w', Q e a' w' ∧ ArrivesIn (Machine.fenced P Fence.wide) P (lone (b.atR a (.code c :: .inLoop c :: k)) cs w) b k cs e a' w' := by
  intro m
  induction m with
  | zero => intro a w h; exact h.elim
  | succ m ih =>
   intro a w h
   obtain ⟨e, a₁, w₁, hq, harr⟩ := h b (.inLoop c :: k) cs hro hb
   cases e with
   | normal =>
    obtain ⟨e₂, a₂, w₂, hq₂, harr₂⟩ := ih a₁ w₁ hq
    exact ⟨e₂, a₂, w₂, hq₂, .of_steps (StepsIn.trans harr (.one (fenced_wide _ _) stepR_inLoop)) harr₂⟩
   | exit id => exact ⟨_, a₁, w₁, hq, .pass (x := .inLoop c) rfl (fun _ _ => .inl (by simp)) harr⟩
   | goto l => exact ⟨_, a₁, w₁, hq, .pass (x := .inLoop c) rfl (fun _ _ => .inl (by simp)) harr⟩
   | ret => exact ⟨_, a₁, w₁, hq, .pass (x := .inLoop c) rfl (fun _ _ => .inl (by simp)) harr⟩
   | panic ch => exact ⟨_, a₁, w₁, hq, .pass (x := .inLoop c) rfl (fun _ _ => .inl (by simp)) harr⟩
   | outgrown => exact ⟨_, a₁, w₁, hq, .pass (x := .inLoop c) rfl (fun _ _ => .inl (by simp)) harr⟩
 obtain ⟨e, a', w', hq, harr⟩ := key m a w h
 exact ⟨e, a', w', hq, .of_steps (.one (fenced_wide _ _) stepR_loop) harr⟩
theorem xGq {f : FuncId} {fn : Func} {c : Code} {args : Array Value} {R : Ending → World → Prop}
  (hf : P.funcs[f]? = some fn) (hb : fn.body = some c)
  (h : wpX n P c (bodyPostM Fence.wide n P fn R) { tmps := args ++ Array.replicate (fn.ntmps - args.size) undef, defers := [] } w) : Calls P f args w R := by
 refine (callsIn_wide (n := n)).1 ⟨trivial, fun cs hr => ?_⟩
 let b : Frame := { (default : Frame) with fn := f, kind := .normal, roundOf := none }
 have henter : Frame.enter P f args .normal =
   b.atR { tmps := args ++ Array.replicate (fn.ntmps - args.size) undef, defers := [] } [.code c] := by
  simp [Frame.enter, Frame.atR, hf, hb, b]
 obtain ⟨e, a', w', hq, harr⟩ := h b [] cs rfl ⟨fn, hf⟩
 rw [← henter] at harr
 have hF : Fence.wide.fn b.fn := trivial
 cases e with
 | normal =>
  obtain ⟨e', w'', fr', hR, hs, hfn, hl⟩ := leaves_stepsInM a'.defers .returning w' { b.atR a' [] with mode := .returning } cs rfl rfl rfl hf rfl hF hr hq
  exact ⟨e', w'', fr', hR, ComesIn.of_steps (StepsIn.trans harr (.one (fenced_wide _ _) (stepR_end rfl))) hs, hfn, hl⟩
 | ret =>
  obtain ⟨todo, hs₀⟩ := harr.1 rfl
  obtain ⟨e', w'', fr', hR, hs, hfn, hl⟩ := leaves_stepsInM a'.defers .returning w' { b.atR a' todo with mode := .returning } cs rfl rfl rfl hf rfl hF hr hq
  exact ⟨e', w'', fr', hR, ComesIn.of_steps hs₀ hs, hfn, hl⟩
 | panic chain =>
  obtain ⟨todo, hs₀⟩ := harr
  obtain ⟨e', w'', fr', hR, hs, hfn, hl⟩ := leaves_stepsInM a'.defers (.panicking chain) w' { b.atR a' todo with mode := .panicking chain } cs rfl rfl rfl hf rfl hF hr hq
  exact ⟨e', w'', fr', hR, ComesIn.of_steps hs₀ hs, hfn, hl⟩
 | exit id => exact hq.elim
 | goto l => exact hq.elim
 | outgrown => exact ⟨.outgrown, w', b, hq, harr.resolve_left (by simp [b]), rfl, trivial⟩
theorem wpX_rangeFunc {g : Operand} {ps : Array Tmp} {assign body : Code}
  (h : ∀ fn fnc, P.funcs[fn]? = some fnc → ∃ (l : Nat) (mark : List Deferred) (w₁ : World) (d : Deferred) (w₁' : World) (f : FuncId) (args : Array Value) (w₂ : World),
   (Instr.enterLoop fn a.tmps ps assign body none).run P w = .ok (l, mark) w₁ ∧
   (resolve a.eval (rangeCall g l) 0).run P w₁ = .ok d w₁' ∧
   (invoke d.target d.args).run P w₁' = .ok (.enter f args) w₂ ∧
   CallsIn Fence.wide (n - 1) P f args w₂ fun e w₃ => match e with
    | .returned _ => ∃ w₄, (Instr.endLoop l).run P w₃ = .ok none w₄ ∧ Q .normal { a with defers := mark ++ a.defers } w₄
    | .panicked chain => Q (.panic chain) { a with defers := mark ++ a.defers } w₃
    | .outgrown => False) :
  wpX n P (Code.rangeFunc g ps assign body) Q a w := by
 intro b k cs hro ⟨fnc, hb⟩
 obtain ⟨l, mark, w₁, d, w₁', f, args, w₂, he, hres, hinv, hcall⟩ := h b.fn fnc hb
 rw [← hro] at he
 have henter := stepR_rangeFunc (P := P) (b := b) (a := a) (k := k) (cs := cs) (w := w) he hres hinv
 obtain ⟨e, w₃, fr, hR, hsteps, hfn, hleave⟩ := hcall.2 (b.atR { a with defers := mark ++ a.defers } (.inRangeFunc l :: k) :: cs) (room_wide _)
 cases e with
 | outgrown => exact hR.elim
 | returned v =>
  obtain ⟨w₄, hend, hj⟩ := hR
  have sback : StepsIn (Machine.fenced P Fence.wide) P (lone (b.atR a (.code (.rangeFunc g ps assign body) :: k)) cs w) (lone (b.atR { a with defers := mark ++ a.defers } (((none : Option Code).map Item.code).toList ++ k)) cs w₄) := by
   refine .head (fenced_wide _ _) henter (StepsIn.trans hsteps (.head (fenced_wide _ _) ?_ (.one (fenced_wide _ _) (stepR_endRangeFunc hend))))
   rw [← finish_atR_inRangeFunc l v]; exact step_leave_returned hleave
  exact ⟨.normal, _, w₄, hj, sback⟩
 | panicked chain =>
  refine ⟨.panic chain, _, w₃, hR, .inRangeFunc l :: k, .head (fenced_wide _ _) henter (StepsIn.trans hsteps (.one (fenced_wide _ _) ?_))⟩
  rw [← Frame.raise_atR]; exact step_leave_panicked hleave
end
theorem xFo {g : Operand} {ps : Array Tmp} {assign body : Code} {Q : Exit → Act → World → Prop} {a : Act} {w : World}
  {gf : Nat} {lb : Array Value} (hg : a.eval g = .func (.func gf) #[] lb) (eg : ∀ args w, (callFunc gf args).run P w = .ok (.enter gf args) w)
  {encs : α → Array Value} {Kp : World → World → Prop} {S : List α → Prop} {N : Nat} (hseq : SeqP Fence.wide (n - 1) P gf lb encs Kp S N w)
  (hKt : ∀ {A B C : World}, Kp A B → Kp B C → Kp A C) (hKb : ∀ (W : World) (l : Nat) (o o' : Obj), w.heap.size ≤ l → W.heap[l]? = some o → o.isCells = false → o.isWalk = false → Kp W (W.putObj l o')) (hps : ∀ x, (encs x).size = ps.size)
  (I : List α → World → Prop) (I1 : List α → α → Act → World → Prop) (Ip : List PanicEntry → World → Prop) (hI : OwnFrom w.heap.size I) (hI1 : ∀ x b, OwnFrom w.heap.size fun pre W => I1 pre x b W) (h0 : I [] w)
  (hvars : ∀ (l : Nat) (pre : List α) (x : α) (W : World) (K : Act → World → Prop), I pre W → pre.length < N → (∀ b W', KeepsOthers W W' → Kp W W' → I1 pre x b W' → K b W') →
   assign.wpIn (Fence.wide.inRound l) (n - 1 - 1) P (Exit.then K (fun _ _ _ => False)) { tmps := (ps.zip (encs x)).foldl (fun t (p, v) => t.setIfInBounds p v) a.tmps, defers := [] } W)
  (hbody : ∀ (l : Nat) (pre : List α) (x : α) (b : Act) (W : World), I1 pre x b W → body.wpIn (Fence.wide.inRound l) (n - 1 - 1) P (ownPostP Kp I Ip (pre ++ [x]) W) b W)
  (hdone : ∀ (D : Nat) (xs : List α) (W : World), w.heap.size ≤ D → S xs → I xs W → W.heap[D]? = some (.deferred (some [])) → Q .normal { a with defers := { target := .collected D, args := #[] } :: a.defers } W)
  (hpan : ∀ (D : Nat) (ch : List PanicEntry) (W : World), w.heap.size ≤ D → Ip ch W → W.heap[D]? = some (.deferred (some [])) → Q (.panic ch) { a with defers := { target := .collected D, args := #[] } :: a.defers } W) :
  wpX n P (Code.rangeFunc g ps assign body) Q a w := by
 refine wpX_rangeFunc fun fn fnc hfnc => ?_
 obtain ⟨D, hD⟩ : ∃ D, w.heap.size = D := ⟨_, rfl⟩
 obtain ⟨st, hst⟩ : ∃ st : LoopState → Option Code → Loop, st = fun s c => { state := s, pending := c, fn, tmps := a.tmps, params := ps, assign, body, defers := D } := ⟨_, rfl⟩
 obtain ⟨W1, hW1⟩ : ∃ W1, (w.alloc (.deferred (some []))).alloc (.loop (st .ready none)) = W1 := ⟨_, rfl⟩
 have hs1 : W1.heap.size = D + 2 := by rw [← hW1]; simp [hD]
 have hL1 : xEf D (st .ready none) W1 := by
  refine ⟨?_, ?_⟩
  ·rw [← hW1, ← hD]
   have := World.alloc_heap_new (w.alloc (.deferred (some []))) (.loop (st .ready none))
   rwa [World.size_alloc] at this
  ·rw [← hW1, ← hD]
   exact (Below.heap_alloc _ _ _ (by simp)).trans (World.alloc_heap_new w _)
 have hb1 : Below w.heap.size w W1 := by
  rw [← hW1]
  exact ((Below.refl _ w).alloc (Nat.le_refl _) _).alloc (by simp) _
 have hI0 : I [] W1 := by rw [← hW1]; exact hI.alloc _ (hI.alloc _ h0)
 have lD : w.heap.size ≤ D + 1 := by omega
 refine ⟨D + 1, [{ target := .collected D, args := #[] }], W1, { target := .fn (.func gf) lb, args := #[.func (.yield (D + 1)) #[] #[]] }, W1, gf, #[.func (.yield (D + 1)) #[] #[]] ++ lb, W1, ?_, ?_, ?_, ?_⟩
 ·rw [← hW1, hst, ← hD]; exact run_enterLoop_outer _ _ _ _ _
 ·simp only [resolve, hg]
  simp [go_sem]
 ·simp [invoke, go_sem, eg]
 refine (hseq (D + 1) (fun pre W => I pre W ∧ xEf D (st .ready none) W) (fun ch W => Ip ch W ∧ W.heap[D]? = some (.deferred (some []))) W1 hb1 ?round ⟨hI0, hL1⟩).mono ?behind
 case round =>
  rintro pre x W ⟨hi, hl⟩ hlen
  have hy := run_yield (P := P) (args := encs x) hl.1 (by rw [hst]; exact hps x)
  rw [hst] at hy
  refine ⟨fn, _, assign, body, hy, xHs (F := Fence.wide) hfnc trivial (hvars _ pre x W _ hi hlen fun b W' hk' hkp' hi' => ⟨_, run_beginRound (hl.keeps hk').1 (by rw [hst]), ?_⟩)⟩
  have hl' := hl.keeps hk'
  have hlb : xEf D { st .ready none with state := .busy } (W'.putObj (D + 1) (.loop { st .ready none with state := .busy })) := hl'.put
  have hkb : Kp W' (W'.putObj (D + 1) (.loop { st .ready none with state := .busy })) := hKb _ _ _ _ lD hl'.1 rfl rfl
  refine wpIn_mono (hbody _ pre x b _ ((hI1 x b).putObj _ hi' lD hl'.1 rfl)) ?_
  rintro e a3 W3 hp
  cases e with
  | normal =>
   obtain ⟨hk3, hkp3, hi3⟩ := hp
   have hl3 := hlb.keeps hk3
   have e := run_endRound (P := P) none hl3.1
   rw [hst] at e hl3
   have hl4 : xEf D { (st .ready none) with state := .ready } (W3.putObj (D + 1) (.loop { (st .ready none) with state := .ready })) := by
    rw [hst]; exact hl3.put
   rw [hst] at hl4
   refine ⟨_, _, e, .inl ⟨rfl, ⟨hI.putObj _ hi3 lD hl3.1 rfl, by rw [hst]; exact hl4⟩, hKt (hKt (hKt hkp' hkb) hkp3) (hKb _ _ _ _ lD hl3.1 rfl rfl)⟩⟩
  | panic ch => exact ⟨hp.1, .inr ⟨ch, rfl, hp.2.1, hp.2.2 D hlb.2⟩⟩
  | ret => exact hp.elim
  | exit id => exact hp.elim
  | goto t => exact hp.elim
  | outgrown => exact hp.elim
 case behind =>
  rintro e W2 (⟨v, rfl, xs, hS, hi, hl⟩ | ⟨ch, rfl, hi, hd⟩)
  ·have e := run_endLoop (P := P) hl.1 (by rw [hst]; simp)
   rw [hst] at e
   exact ⟨_, e, hdone _ xs _ (by omega) hS (hI.putObj _ hi lD hl.1 rfl) ((World.putObj_heap_other (by omega)).trans hl.2)⟩
  ·exact hpan D ch W2 (by omega) hi hd
end
end
section
section
variable {P : Program} {ops : Array Oper} {C R : World → Prop} {ch : List PanicEntry} {Q : Exit → Act → World → Prop}
def xDx (P : Program) (ops : Array Oper) (o : Oper) (a : Act) (C R : World → Prop) (ch : List PanicEntry) : Prop :=
 Region.wanted o (yielded ops a.tmps) = true ∧ ∀ w, C w → ∃ f args w', (execOp a.eval o).run P w = .ok (.enter f args) w' ∧ Calls P f args w' fun e w'' => e = .panicked ch ∧ R w''
theorem xIx {o : Oper} {u : Value} {a : Act} {d : Option Tmp} (hs : ∀ cs b, o.op ≠ .select cs b) (hd : ∀ t, d = some t → t ∉ o.looksAt ops) : xDx P ops o (a.put d u) C R ch ↔ xDx P ops o a C R ch := by
 unfold xDx
 rw [wanted_put o a d u hd, execOp_put o hs a d u hd]
def wpAnyP (P : Program) (ops : Array Oper) (C R : World → Prop) (ch : List PanicEntry) (i0 : Nat) : Nat → Array Bool → Act → Prop
  | 0, _, _ => False
  | f + 1, listed, a => Region.ready .any ops listed ≠ [] ∧ ∀ i ∈ Region.ready .any ops listed, ∃ o, ops[i]? = some o ∧
      ((i = i0 ∧ xDx P ops o a C R ch) ∨ (i ≠ i0 ∧ ∃ v, xBg P ops o v a C C ∧ wpAnyP P ops C R ch i0 f (listed.setIfInBounds i true) (a.put o.dst v)))
theorem put_defers (a : Act) (d : Option Tmp) (v : Value) : (a.put d v).defers = a.defers := by cases d <;> rfl
theorem wpAny_of_P {i0 : Nat} {ds : List Deferred} (hQ : ∀ a w, a.defers = ds → R w → Q (.panic ch) a w) : ∀ (f : Nat) (listed : Array Bool) (a : Act) (w : World), a.defers = ds → C w → wpAnyP P ops C R ch i0 f listed a → wpAny P .any ops Q f listed a w
  | 0, _, _, _, _, _, h => h.elim
  | f + 1, listed, a, w, hd, hw, h => ⟨fun h0 => absurd h0 h.1, fun i hi => by
      obtain ⟨o, ho, h1 | h1⟩ := h.2 i hi
      · obtain ⟨_, hwt, hp⟩ := h1
        unfold Go.wpOp
        simp only [ho]
        rw [if_pos hwt]
        refine .inl ?_
        obtain ⟨g, args, w', he, hc⟩ := hp w hw
        unfold Oper.wp
        rw [he]
        simp only [Oper.upon]
        exact hc.mono fun e w'' ⟨he, hr⟩ => by subst he; exact hQ a w'' hd hr
      · obtain ⟨_, v, hy, hn⟩ := h1
        exact hy.wpOp ho hw fun w' hw' => wpAny_of_P hQ f _ _ w' (by rw [put_defers]; exact hd) hw' hn⟩
theorem wpAnyP_first {i0 i : Nat} {oi : Oper} {v : Value} (hi : ops[i]? = some oi) (hne : i ≠ i0) (hs : ∀ (j : Nat) (o : Oper) cs b, ops[j]? = some o → o.op ≠ .select cs b) : ∀ (fuel : Nat) (listed : Array Bool) (a : Act),
   (∀ j oj, ops[j]? = some oj → j ≠ i → listed.getD j true = false → (∀ e ∈ oj.after, Region.binds .any e = true → e.on ≠ i) → oi.apart ops oj = true) →
   i ∈ Region.ready .any ops listed → xBg P ops oi v a C C → wpAnyP P ops C R ch i0 fuel (listed.setIfInBounds i true) (a.put oi.dst v) → wpAnyP P ops C R ch i0 (fuel + 1) listed a := by
 intro fuel
 induction fuel with
 | zero => intro listed a _ _ _ H; exact H.elim
 | succ fuel ih =>
  intro listed a hfree hr hy H
  refine ⟨fun h0 => (by rw [h0] at hr; cases hr), fun j hj => ?_⟩
  by_cases hji : j = i
  ·subst hji
   exact ⟨oi, hi, .inr ⟨hne, v, hy, H⟩⟩
  ·obtain ⟨oj, hoj, hH⟩ := H.2 j (ready_mono hj hji)
   obtain ⟨hjun, oj', hoj', hall⟩ := mem_ready.1 hj
   obtain rfl : oj = oj' := Option.some.inj (hoj.symm.trans hoj')
   have hnot : ∀ e ∈ oj.after, Region.binds .any e = true → e.on ≠ i := fun e he hb heq => by
    have h1 := hall e he hb
    have h0 := (mem_ready.1 hr).1
    rw [heq] at h1
    rcases Nat.lt_or_ge i listed.size with h' | h'
    ·simp [h'] at h0 h1; rw [h0] at h1; cases h1
    ·simp [Array.getElem?_eq_none h'] at h1
   obtain ⟨p1, p2, p3⟩ := Oper.apart_spec (hfree j oj hoj hji hjun hnot)
   refine ⟨oj, hoj, ?_⟩
   rcases hH with ⟨h1, h2⟩ | ⟨h1, u, h2, h3⟩
   ·exact .inl ⟨h1, (xIx (fun cs b => hs j oj cs b hoj) p1).1 h2⟩
   ·refine .inr ⟨h1, u, (xBg.of_put (fun cs b => hs j oj cs b hoj) p1).1 h2, ?_⟩
    refine ih (listed.setIfInBounds j true) (a.put oj.dst u) (fun k ok hk hki hun hno => ?_) (ready_mono hr (Ne.symm hji)) ((xBg.of_put (fun cs b => hs i oi cs b hi) p3).2 hy) ?_
    ·refine hfree k ok hk hki ?_ hno
     by_cases hjk : j = k
     ·subst hjk; exact hjun
     ·rw [getD_set_ne true hjk] at hun; exact hun
    ·rw [Array.setIfInBounds_comm _ _ hji, ← Act.put_comm a v u p2]
     exact h3
def panicOK (ops : Array Oper) (ord : List (Nat × Bool)) (i0 : Nat) : Bool := Region.noSelect ops && ordB ops (ord.map (·.1)) (Array.replicate ops.size false) && decide (Region.ready .any ops (xCf (ord.map (·.1)) (Array.replicate ops.size false)) = [i0]) && ord.all fun p => p.1 != i0 && !p.2
theorem heads_allP {i0 n : Nat} {K : Act → Prop} (hs : ∀ (j : Nat) (o : Oper) cs b, ops[j]? = some o → o.op ≠ .select cs b) : ∀ (ord : List (Nat × Bool)) (listed : Array Bool) (a : Act), ordB ops (ord.map (·.1)) listed = true → (ord.all fun p => p.1 != i0 && !p.2) = true →
    headW P ops (fun _ => True) C K ord a → (∀ a', K a' → wpAnyP P ops C R ch i0 n (xCf (ord.map (·.1)) listed) a') → wpAnyP P ops C R ch i0 (ord.length + n) listed a
  | [], listed, a, _, _, h, hn => by rw [List.length_nil, Nat.zero_add]; exact hn a h
  | (i, b) :: r, listed, a, hB, hT, h, hn => by
    simp only [List.map_cons, ordB, Bool.and_eq_true] at hB
    obtain ⟨⟨hr, hfr⟩, hB'⟩ := hB
    simp only [List.all_cons, Bool.and_eq_true, bne_iff_ne, ne_eq, Bool.not_eq_true'] at hT
    obtain ⟨⟨hne, rfl⟩, hT'⟩ := hT
    obtain ⟨o, v, ho, _, hy, hK⟩ := h
    have hr' : i ∈ Region.ready .any ops listed := by simpa using hr
    rw [List.length_cons, show r.length + 1 + n = (r.length + n) + 1 by omega]
    exact wpAnyP_first ho hne hs (r.length + n) listed a (Region.free_spec ho hfr) hr' (hy rfl)
      (heads_allP hs r _ _ hB' (by simpa using hT') hK hn)
theorem xJa {l : List Oper} {a : Act} {w : World} {ts : List Nat} (i0 : Nat) {n : Nat} (hC : C w) (hlen : ts.length = l.length) (hfu : l.length = (xBi 0 ts).length + (n + 1)) (hB : panicOK l.toArray (xBi 0 ts) i0 = true) (hQ : ∀ a' w', a'.defers = a.defers → R w' → Q (.panic ch) a' w')
  (h : ∀ K : List Oper → Act → Prop, (∀ tl a', (∃ o, l.toArray[i0]? = some o ∧ xDx P l.toArray o a' C R ch) → K tl a') → xBr P l.toArray (fun _ => True) C K ts l [] a) : wpAny P .any l.toArray Q l.length (Array.replicate l.toArray.size false) a w := by
 simp only [panicOK, Bool.and_eq_true, decide_eq_true_eq] at hB
 obtain ⟨⟨⟨h1, h2⟩, h3⟩, h4⟩ := hB
 have hW := xCi (P := P) (ops := l.toArray) (I := fun _ => True) (C := C) (K := fun a' => ∃ o, l.toArray[i0]? = some o ∧ xDx P l.toArray o a' C R ch) ts l [] 0 a hlen (fun j => by simp) (fun a' ha' => ha') (h (fun _ a' => ∃ o, l.toArray[i0]? = some o ∧ xDx P l.toArray o a' C R ch) (fun _ _ h => h))
 rw [hfu]
 refine wpAny_of_P (C := C) (R := R) (ch := ch) (i0 := i0) hQ _ _ _ w rfl hC ?_
 refine heads_allP (Region.noSelect_spec h1) (xBi 0 ts) _ a h2 h4 hW fun a' ⟨o, ho, hp⟩ => ?_
 refine ⟨by rw [h3]; simp, fun i hi => ?_⟩
 rw [h3] at hi
 obtain rfl : i = i0 := by simpa using hi
 exact ⟨o, ho, .inl ⟨rfl, hp⟩⟩
theorem xIu {id : Nat} {w : World} {l : List Oper} {a : Act} (C R : World → Prop) (ch : List PanicEntry) (hC : C w.drew) (ts : List Nat) (i0 n : Nat) (hm : P.follows .mixedOrders = true) (hlen : ts.length = l.length) (hfu : l.length = (xBi 0 ts).length + (n + 1)) (hB : panicOK l.toArray (xBi 0 ts) i0 = true) (hQ : ∀ a' w', a'.defers = a.defers → R w' → Q (.panic ch) a' w')
  (h : ∀ K : List Oper → Act → Prop, (∀ tl a', (∃ o, l.toArray[i0]? = some o ∧ xDx P l.toArray o a' C R ch) → K tl a') → xBr P l.toArray (fun _ => True) C K ts l [] a) : (Code.region id l.toArray true).wp P Q a w := by
 refine wp_region_any hm ?_
 have := xJa (P := P) (Q := Q) (w := w.drew) i0 hC hlen hfu hB hQ h
 simpa using this
theorem xHg {k n0 id : Nat} {w : World} {l : List Oper} {a : Act} (C R : World → Prop) (ch : List PanicEntry) (hC : C w.drew) (ts : List Nat) (i0 n : Nat) (hout : ¬ LetsOut Q) (hnd : noDefer l = true) (hm : P.follows .mixedOrders = true) (hlen : ts.length = l.length) (hfu : l.length = (xBi 0 ts).length + (n + 1)) (hB : panicOK l.toArray (xBi 0 ts) i0 = true) (hQ : ∀ a' w', a'.defers = a.defers → R w' → Q (.panic ch) a' w')
  (h : ∀ K : List Oper → Act → Prop, (∀ tl a', (∃ o, l.toArray[i0]? = some o ∧ xDx P l.toArray o a' C R ch) → K tl a') → xBr P l.toArray (fun _ => True) C K ts l [] a) : (Code.region id l.toArray true).wpIn (Fence.wide.inRound k) n0 P Q a w := by
 refine wpIn_region_any hm (xEy hout (xIe hnd) _ _ _ _ ?_)
 have := xJa (P := P) (Q := Q) (w := w.drew) i0 hC hlen hfu hB hQ h
 simpa using this
theorem p_call {i0 : Nat} {o : Oper} {a : Act} (ho : ops[i0]? = some o) (hw : Region.wanted o (yielded ops a.tmps) = true) {f : FuncId} {xs : List Operand} {us : Array TypeId} (hop : o.op = .call { callee := .value (.func f), args := xs.toArray, argTypes := us }) {vs : List Value} (hx' : evL a xs = some vs)
  (hent : ∀ w, (callFunc f vs.toArray).run P w = .ok (.enter f vs.toArray) w) (hq : ∀ w, C w → Calls P f vs.toArray w fun e w' => e = .panicked ch ∧ R w') : ∃ o, ops[i0]? = some o ∧ xDx P ops o a C R ch :=
 ⟨o, ho, hw, fun w hC => ⟨f, vs.toArray, w, by
  have hx := xDr hx'
  unfold execOp
  simp only [hop, resolve, Deferred.ofValue, Act.eval, Sem.run_bind, Sem.run_pure, Result.andThen_ok, hx]
  have := hent w
  simpa [invoke] using this, hq w hC⟩⟩
end
end
section
attribute [local go_sem] Oper.semAt_some
def stopP (k : Int) : List PanicEntry := [{ v := .iface 104 (.agg #[.int .i64 k]), recovered := false }]
section
variable {B0 : Nat} {w0 w W : World} {L : List (Nat × Obj)}
theorem xHd {F : Fence} {n : Nat} {P : Program} {fn : Func} {tmps : Array Value} {R : Ending → World → Prop} {ch : List PanicEntry} : ∀ (Ds : List Nat) (W : World), Rep B0 w0 (xDb Ds ++ L) W → (∀ W', Rep B0 w0 L W' → R (.panicked ch) W') → LeavesInM F n P fn tmps R (Ds.map coll) (.panicking ch) W
  | [], W, hR, h => h W hR
  | D :: Ds, W, hR, h => by
    have hR0 : Rep B0 w0 ((D, .deferred (some [])) :: (xDb Ds ++ L)) W := hR
    exact ⟨by simp, .inl ⟨D, _, rfl, run_takeDeferred (hR0.own _ (List.Mem.head _)).2, xHd Ds _ (hR0.putHead (.deferred none)) h⟩⟩
theorem othersP_in (F : Fence) (n : Nat) (h7 : F.fn 176) (hro : F.round = none) (hn : 1 ≤ n) (l Bn Bi len i0 : Nat) (hlen : len ≤ 1000000) (hi0 : i0 ≤ 1000000) (J : List (Oth len i0) → World → Prop) (Jp : List PanicEntry → World → Prop)
  (hY : ∀ pre (x : Oth len i0) W, J pre W → pre.length < len → YieldAt F (n - 1) Tryz.prog l #[.int .i64 ((x.1 : Int) + 1)] W fun e W' =>
   (e = .returned (.bool true) ∧ J (pre ++ [x]) W' ∧ xJl [Bn, Bi] W W') ∨ ∃ ch, e = .panicked ch ∧ Jp ch W')
  (W : World) (hBn : W.cell? ⟨Bn, 0, none⟩ = some (.int .i64 (len : Int))) (hBi : W.cell? ⟨Bi, 0, none⟩ = some (.int .i64 ((i0 : Int) + 1))) (h0 : J [] W) :
  CallsIn F n Tryz.prog 176 #[.func (.yield l) #[] #[], .pointer (some ⟨Bn, 0, none⟩), .pointer (some ⟨Bi, 0, none⟩)] W fun e W' => (∃ v, e = .returned v ∧ ∃ ys, ys = othL len i0 len ∧ J ys W') ∨ ∃ ch, e = .panicked ch ∧ Jp ch W' := by
 refine callsIn_of_wp Tryz.func176 rfl h7 ?_ hro
 simp only [Tryz.ntmps176, List.size_toArray, List.length_cons, List.length_nil, Nat.reduceAdd, Nat.reduceSub, Array.replicate_succ, Array.replicate_zero, List.push_toArray, List.append_toArray, List.nil_append, List.cons_append]
 gi_wp2
 gi_loopw [4] (fun i wr => ∃ m : Nat, m ≤ len ∧ i = .int .i64 ((m : Int) + 1) ∧ J (othL len i0 m) wr ∧ xJl [Bn, Bi] W wr)
  (fun i _ => ((len : Int) + 1 - intOf i).toNat)
 case atStart => exact ⟨0, Nat.zero_le _, rfl, h0, fun _ _ => rfl⟩
 case round =>
  obtain ⟨m, hm, rfl, hJs, hnx⟩ := hrel
  have hbn : wr.cell? ⟨Bn, 0, none⟩ = some (.int .i64 (len : Int)) := (hnx ⟨Bn, 0, none⟩ (by simp)).trans hBn
  have hbi : wr.cell? ⟨Bi, 0, none⟩ = some (.int .i64 ((i0 : Int) + 1)) := (hnx ⟨Bi, 0, none⟩ (by simp)).trans hBi
  have ln : (loadVar 3 ⟨Bn, 0, none⟩).run Tryz.prog wr = .ok (.int .i64 (len : Int)) wr := xEj hbn
  have li : (loadVar 3 ⟨Bi, 0, none⟩).run Tryz.prog wr = .ok (.int .i64 ((i0 : Int) + 1)) wr := xEj hbi
  have ek : IntKind.i64.wrap ((m : Int) + 1 + 1) = ((m + 1 : Nat) : Int) + 1 := by rw [IntKind.wrap_i64]; omega
  by_cases hml : m = len
  ·subst hml
   have t1 : ¬ (m : Int) + 1 ≤ (m : Int) := by omega
   gi_wp2_with (first | (refine' in_unw rfl rfl ?_) | (refine' xCt rfl rfl rfl ln ?_) | (refine' xCt rfl rfl rfl li ?_))
   go_end0
   exact .inl ⟨⟨_, rfl⟩, hJs⟩
  ·have t1 : (m : Int) + 1 ≤ (len : Int) := by omega
   by_cases hmi : m = i0
   ·subst hmi
    have t2 : ((m : Int) + 1 != (m : Int) + 1) = false := by simp
    gi_wp2_with (first | (refine' in_unw rfl rfl ?_) | (refine' xCt rfl rfl rfl ln ?_) | (refine' xCt rfl rfl rfl li ?_))
    go_roundw
    case rel => exact ⟨m + 1, by omega, by rw [← ek]; simp [IntKind.wrap_i64]; omega, by rw [othL_same]; exact hJs, hnx⟩
    case measure => simp [intOf]; omega
   ·have t2 : ((m : Int) + 1 != (i0 : Int) + 1) = true := by simp; omega
    have t3 : ((m : Int) + 1 == (i0 : Int) + 1) = false := by simp; omega
    have t4 : ¬ (m : Int) + 1 = (i0 : Int) + 1 := by omega
    obtain ⟨fn, tmps, assign, body, hy, hR⟩ := hY _ ⟨m, by omega, hmi⟩ wr hJs (by have := othL_len len i0 m; omega)
    dsimp only at hy
    gi_wp2_with (first | (refine' in_unw rfl rfl ?_) | (refine' xCt rfl rfl rfl ln ?_) | (refine' xCt rfl rfl rfl li ?_))
    refine hR.mono ?_
    rintro e W3 (⟨rfl, hJ3, hk3⟩ | ⟨ch, rfl, hJp3⟩)
    ·gi_wp2
     go_roundw
     case rel => exact ⟨m + 1, by omega, by rw [← ek]; simp [IntKind.wrap_i64]; omega, by rw [othL_next ⟨by omega, hmi⟩]; exact hJ3, xHe hnx hk3⟩
     case measure => simp [intOf]; omega
    ·exact ⟨rfl, .inr ⟨ch, rfl, hJp3⟩⟩
theorem others_panics (F : Fence) (n : Nat) (h7 : F.fn 176) (hro : F.round = none) (hn : 1 ≤ n) (Bn Bi len i0 : Nat) (hlen : len ≤ 1000000) (hi0 : i0 ≤ 1000000) (w : World) (hb : ∀ x ∈ [Bn, Bi], x < w.heap.size)
  (hBn : w.cell? ⟨Bn, 0, none⟩ = some (.int .i64 (len : Int))) (hBi : w.cell? ⟨Bi, 0, none⟩ = some (.int .i64 ((i0 : Int) + 1))) :
  SeqP F n Tryz.prog 176 #[.pointer (some ⟨Bn, 0, none⟩), .pointer (some ⟨Bi, 0, none⟩)] (fun x : Oth len i0 => #[Value.int .i64 ((x.1 : Int) + 1)]) (xJl [Bn, Bi]) (fun ys => ys = othL len i0 len) len w := fun l J Jp W hW hY h0 => by
 have kp : ∀ p : Addr, p.block ∈ [Bn, Bi] → ∀ v, w.cell? p = some v → W.cell? p = some v := fun p hp v hv => (hW.cell (p := p) (by exact hb _ hp)).trans hv
 exact othersP_in F n h7 hro hn l Bn Bi len i0 hlen hi0 J Jp hY W (kp _ (by simp) _ hBn) (kp _ (by simp) _ hBi) h0
def roundPostN (W : World) (B0 : Nat) (w0 : World) (L LX : List (Nat × Obj)) (M : Prop) (ch : List PanicEntry) : Exit → Act → World → Prop
 | .normal, _, W' => RK W B0 w0 L W' ∧ M
 | .panic c, a, W' => a.defers = [] ∧ c = ch ∧ RK W B0 w0 LX W'
 | _, _, _ => False
theorem range_othersP {n i : Nat} {Q : Exit → Act → World → Prop} {l : List Value} {ac bc : Code} (Ds : List Nat) (Bn Bi : Nat) (LL : List (Oth n i) → List (Nat × Obj)) (M : List (Oth n i) → Prop) (ch : List PanicEntry)
  (hg : (Act.mk l.toArray (Ds.map coll)).eval (.tmp 27) = .func (.func 176) #[] #[.pointer (some ⟨Bn, 0, none⟩), .pointer (some ⟨Bi, 0, none⟩)])
  (hn : n ≤ 1000000) (hi : i ≤ 1000000) (hBn : ∀ pre, (Bn, Obj.cells [Value.int .i64 (n : Int)].toArray 3) ∈ LL pre) (hBi : ∀ pre, (Bi, Obj.cells [Value.int .i64 ((i : Int) + 1)].toArray 3) ∈ LL pre)
  (hR : Rep B0 w0 (xDb Ds ++ LL []) w) (hM : M []) (hL : ∀ pre p, p ∈ LL pre → p.2.isCells = true)
  (hvars : ∀ (k : Nat) (pre : List (Oth n i)) (x : Oth n i) (W : World) (K : Act → World → Prop), RK W B0 w0 (LL pre) W → (∀ W', RK W B0 w0 (LL pre) W' → K ⟨(slotsO l x).toArray, []⟩ W') →
   ac.wpIn (Fence.wide.inRound k) 3 Tryz.prog (Exit.then K (fun _ _ _ => False)) ⟨(l.set 28 (.int .i64 ((x.1 : Int) + 1))).toArray, []⟩ W)
  (hbody : ∀ (k : Nat) (pre : List (Oth n i)) (x : Oth n i) (W : World), M pre → RK W B0 w0 (LL pre) W →
   bc.wpIn (Fence.wide.inRound k) 3 Tryz.prog (roundPostN W B0 w0 (LL (pre ++ [x])) (LL pre) (M (pre ++ [x])) ch) ⟨(slotsO l x).toArray, []⟩ W)
  (hdone : ∀ (D : Nat) (W : World), M (othL n i n) → Rep B0 w0 (xDb (D :: Ds) ++ LL (othL n i n)) W → Q .normal ⟨l.toArray, (D :: Ds).map coll⟩ W)
  (hpan : ∀ (D : Nat) (pre : List (Oth n i)) (W : World), Rep B0 w0 (xDb (D :: Ds) ++ LL pre) W → Q (.panic ch) ⟨l.toArray, (D :: Ds).map coll⟩ W) :
  wpX 5 Tryz.prog (Code.rangeFunc (.tmp 27) #[28] ac bc) Q ⟨l.toArray, Ds.map coll⟩ w := by
 have hR0 : Rep B0 w0 (LL []) w := hR.weaken (List.sublist_append_right _ _)
 have hDs : ∀ D, D ∈ Ds → w.heap[D]? = some (.deferred (some [])) ∧ B0 ≤ D ∧ D < w.heap.size := fun D hD => by
  have h1 := hR.own _ (List.mem_append_left _ (mem_marks hD))
  exact ⟨h1.2, h1.1, (Array.getElem?_eq_some_iff.1 h1.2).1⟩
 have hNd : Ds.Nodup := by
  have := hR.uniq
  rw [List.map_append] at this
  have h2 := (List.nodup_append.1 this).1
  rw [marks_fst] at h2
  exact h2
 have own : OwnFrom w.heap.size (fun s W => (Rep B0 w0 (LL s) W ∧ ∀ D, D ∈ Ds → W.heap[D]? = some (.deferred (some []))) ∧ M s) := fun s W W' row h hg hr =>
  ⟨⟨xGr hR.le hL s W W' row h.1.1 hg hr, fun D hD => by
   have hlt : D < W.heap.size := (Array.getElem?_eq_some_iff.1 (h.1.2 D hD)).1
   rw [hg.block D hlt (fun e => by have := (hr D e.symm).1; have := (hDs D hD).2.2; omega)]
   exact h.1.2 D hD⟩, h.2⟩
 have hb : ∀ x ∈ [Bn, Bi], x < w.heap.size := fun x hx => by
  simp only [List.mem_cons, List.not_mem_nil, or_false] at hx
  rcases hx with rfl | rfl
  ·exact hR0.lt (hBn [])
  ·exact hR0.lt (hBi [])
 have hkeep : ∀ (pre pre' : List (Oth n i)) (W W' : World), Rep B0 w0 (LL pre) W → Rep B0 w0 (LL pre') W' → xJl [Bn, Bi] W W' := fun pre pre' W W' hw hw' p hp => by
  refine World.cell?_of_block ?_
  simp only [List.mem_cons, List.not_mem_nil, or_false] at hp
  rcases hp with e | e <;> rw [e]
  ·exact (hw'.own _ (hBn pre')).2.trans (hw.own _ (hBn pre)).2.symm
  ·exact (hw'.own _ (hBi pre')).2.trans (hw.own _ (hBi pre)).2.symm
 have hfin : ∀ (D : Nat) (s : List (Oth n i)) (W : World), w.heap.size ≤ D → Rep B0 w0 (LL s) W → (∀ D, D ∈ Ds → W.heap[D]? = some (.deferred (some []))) → W.heap[D]? = some (.deferred (some [])) → Rep B0 w0 (xDb (D :: Ds) ++ LL s) W := fun D s W hle hw hd hD => by
  refine rep_marks hw (hL _) ?_ ?_
  ·intro D' hD'
   rcases List.mem_cons.1 hD' with rfl | hD'
   ·exact ⟨hD, by have := hR.le; omega⟩
   ·exact ⟨hd _ hD', (hDs _ hD').2.1⟩
  ·exact List.nodup_cons.2 ⟨fun hm => by have := (hDs D hm).2.2; omega, hNd⟩
 refine xFo (gf := 176) (lb := #[.pointer (some ⟨Bn, 0, none⟩), .pointer (some ⟨Bi, 0, none⟩)]) hg (fun args w => xAv Tryz.func176 (by kernel_rfl) (by kernel_rfl) args w)
  (others_panics Fence.wide 4 trivial rfl (by decide) Bn Bi n i hn hi w hb (hR0.cell (off := 0) (hBn []) rfl) (hR0.cell (off := 0) (hBi []) rfl)) xHe (keepS_b hb) (fun _ => rfl)
  (fun pre W => (Rep B0 w0 (LL pre) W ∧ ∀ D, D ∈ Ds → W.heap[D]? = some (.deferred (some []))) ∧ M pre) (fun pre x b W => b = ⟨(slotsO l x).toArray, []⟩ ∧ (Rep B0 w0 (LL pre) W ∧ ∀ D, D ∈ Ds → W.heap[D]? = some (.deferred (some []))) ∧ M pre)
  (fun c W => c = ch ∧ ∃ pre, Rep B0 w0 (LL pre) W ∧ ∀ D, D ∈ Ds → W.heap[D]? = some (.deferred (some [])))
  own (fun x b => ?own1) ⟨⟨hR0, fun D hD => (hDs D hD).1⟩, hM⟩ ?vars ?body ?done ?pan
 case own1 =>
  rintro pre W W' row ⟨hc, h⟩ hg hr
  exact ⟨hc, own pre W W' row h hg hr⟩
 case vars =>
  rintro k pre x W K ⟨⟨hw, hd⟩, hMp⟩ hl hK
  have hz : ((#[28] : Array Tmp).zip (#[Value.int .i64 ((x.1 : Int) + 1)])).foldl (fun t (x : Tmp × Value) => t.setIfInBounds x.1 x.2) l.toArray = (l.set 28 (Value.int .i64 ((x.1 : Int) + 1))).toArray := by simp
  rw [hz]
  refine hvars k pre x W K ⟨hw, KeepsOthers.refl W⟩ fun W' hw' => ?_
  exact hK _ W' hw'.kept (hkeep pre pre W W' hw hw'.rep) ⟨rfl, ⟨hw'.rep, fun D hD => hw'.kept.same _ _ (hd D hD) rfl⟩, hMp⟩
 case body =>
  rintro k pre x b W ⟨rfl, ⟨hw, hd⟩, hMp⟩
  refine wpIn_mono (hbody k pre x W hMp ⟨hw, KeepsOthers.refl W⟩) ?_
  rintro e a' W' hp
  cases e with
  | normal => exact ⟨hp.1.kept, hkeep pre _ W W' hw hp.1.rep, ⟨hp.1.rep, fun D hD => hp.1.kept.same _ _ (hd D hD) rfl⟩, hp.2⟩
  | panic c => exact ⟨hp.1, ⟨hp.2.1, pre, hp.2.2.rep, fun D hD => hp.2.2.kept.same _ _ (hd D hD) rfl⟩, fun D hD => hp.2.2.kept.same _ _ hD rfl⟩
  | ret => exact hp.elim
  | exit id => exact hp.elim
  | goto t => exact hp.elim
  | outgrown => exact hp.elim
 case done =>
  rintro D ys W hle rfl ⟨⟨hw, hd⟩, hMp⟩ hD
  exact hdone D W hMp (hfin D _ W hle hw hd hD)
 case pan =>
  rintro D c W hle ⟨rfl, pre, hw, hd⟩ hD
  exact hpan D pre W (hfin D _ W hle hw hd hD)
theorem loop_whileX {α : Type} {n : Nat} {P : Program} {c : Code} {Q : Exit → Act → World → Prop} {l : List Value} (mask : List Bool) (upd : α → List Value → List Value) (dd : α → List Deferred) (LL : α → List (Nat × Obj)) (μ : α → Nat) (Ok : α → Prop) (x0 : α)
  (h0 : xFf mask (upd x0 l) l) (hO : Ok x0) (hR : Rep B0 w0 (LL x0) w)
  (hs : ∀ x tm w, Ok x → xFf mask (upd x l) tm → Rep B0 w0 (LL x) w → ∀ K : Act → World → Prop, Held (∀ y tm' w', Ok y → μ y < μ x → xFf mask (upd y l) tm' → Rep B0 w0 (LL y) w' → K ⟨tm'.toArray, dd y⟩ w') → wpX n P c (Exit.then K Q) ⟨tm.toArray, dd x⟩ w) : wpX n P (Code.loop c) Q ⟨l.toArray, dd x0⟩ w := by
 have key : ∀ m x, μ x ≤ m → Ok x → ∀ tm w, xFf mask (upd x l) tm → Rep B0 w0 (LL x) w → roundsX n P c Q (m + 1) ⟨tm.toArray, dd x⟩ w := by
  intro m
  induction m with
  | zero => intro x hx hO tm w h1 h2; exact hs x tm w hO h1 h2 _ ⟨fun y tm' w' _ hy _ _ => by omega⟩
  | succ m ih =>
   intro x hx hO tm w h1 h2
   exact hs x tm w hO h1 h2 _ ⟨fun y tm' w' hO' hy h1' h2' => ih y (by omega) hO' tm' w' h1' h2'⟩
 exact xIv (μ x0 + 1) (key (μ x0) x0 (Nat.le_refl _) hO l w h0 hR)
theorem xFd {n : Nat} {P : Program} {Q : Exit → Act → World → Prop} {a : Act} {x y : Code} (h : ∀ K : Act → World → Prop, Held (∀ a w, wpX n P y Q a w → K a w) → x.wp P (Exit.then K Q) a w) : wpX n P (Code.seq x y) Q a w :=
 wpX_seq (wpX_of_wp (h _ ⟨fun _ _ h => h⟩))
end
end
end Go.Proofs.YtaaahfjpnggkbaaGreatDoor
