/- Lemmas: an abstract machine over the loaded program, proved sound against the model once; what the program's functions compute. -/
import Derived.Test.YtjlaafdldgmndaaK0
import Derived.KernelRfl
import Derived.Shelf.SlSortCmp.NoneTotal
import Derived.Shelf.SlGeneric
import Derived.WalkKit
import Derived.Test.YtjlaafdldgmndaaK1
import Derived.Test.YtjlaafdldgmndaaProg
set_option linter.all false
/- The functions of the program, as the abstract machine takes them: printed by gen2.py. -/
namespace Go.AM
set_option linter.unusedVariables false
abbrev I.o (d : Nat) (e : O) : I := ⟨some d, none, e, [], 0⟩
abbrev I.s (e : O) : I := ⟨none, none, e, [], 0⟩
abbrev I.c (n : Nat) (b : Bool) (d : Nat) (e : O) : I := ⟨some d, some (n, b), e, [], 0⟩
abbrev I.z (d : Nat) (e : O) (z : Nat) : I := ⟨some d, none, e, [], z⟩
abbrev I.u (d : Nat) (e : O) (un : List Nat) (z : Nat) : I := ⟨some d, none, e, un, z⟩
def t_kfifo_Queue : TypeId := 202
def t_multi_Multi : TypeId := 198
def t_net_Net : TypeId := 145
def t_pile_Item : TypeId := 36
def t_pile_items_u : TypeId := 181
def t_tally_Tally : TypeId := 206

def n_c_law18_SpreadKept : FuncId := 5
def n_c_law12_Kind : FuncId := 10
def n_c_law04_Own : FuncId := 11
def n_pile_Item_Canon : FuncId := 12
def n_pile_Sorted : FuncId := 13
def n_value_Of : FuncId := 21
def n_cell_New : FuncId := 22
def n_value_Value_Same : FuncId := 24
def n_c_law18_awake : FuncId := 27
def n_c_law17_Make : FuncId := 28
def n_spread_To : FuncId := 29
def n_image_Image_Value : FuncId := 30
def n_spread_Engine : FuncId := 31
def n_engine_Engine_Value : FuncId := 32
def n_engine_Engine_Param : FuncId := 33
def n_engine_Engine_Kind : FuncId := 34
def n_engine_Engine_Busy : FuncId := 35
def n_cell_Memory_Force : FuncId := 43
def n_engine_With : FuncId := 44
def n_cell_Memory_Read : FuncId := 48
def n_c_law03_F : FuncId := 49
def n_real_Canon : FuncId := 50
def n_pile_New : FuncId := 51
def n_pile_Pile_All : FuncId := 52
def n_op_Legal : FuncId := 63
def n_value_bag : FuncId := 64
def n_value_line : FuncId := 65
def n_value_sum : FuncId := 66
def n_net_New : FuncId := 67
def n_net_Net_Out : FuncId := 68
def n_slices_EqualFunc_pile_Item_pile_Item_pile_Item_pile_Item_1 : FuncId := 69
def n_value_Value_Same_1 : FuncId := 70
def n_pile_Item_Cmp : FuncId := 71
def n_spread_Lay : FuncId := 72
def n_c_law17_sorted : FuncId := 73
def n_image_Image_Check : FuncId := 74
def n_image_Room : FuncId := 75
def n_spread_Deal : FuncId := 76
def n_wire_Even : FuncId := 77
def n_cell_Memory_Write : FuncId := 81
def n_engine_machine : FuncId := 82
def n_cell_Value_Clone : FuncId := 84
def n_container_heap_Init : FuncId := 86
def n_pile_Pile_Take : FuncId := 87
def n_cell_Memory_Len : FuncId := 94
def n_value_line_1 : FuncId := 96
def n_wire_Make : FuncId := 97
def n_real_Cmp : FuncId := 98
def n_spread_fifo : FuncId := 99
def n_spread_tokens : FuncId := 100
def n_image_Shape : FuncId := 101
def n_image_order : FuncId := 102
def n_multi_New : FuncId := 103
def n_kfifo_New : FuncId := 104
def n_tally_New : FuncId := 105
def n_container_heap_down : FuncId := 106
def n_container_heap_Pop : FuncId := 107
def n_wire_Plan_count : FuncId := 111
def n_real_Key : FuncId := 112
def n_kfifo_Queue_Slot : FuncId := 113
def n_wire_Plan_Pass : FuncId := 114
def n_wire_Plan_merge : FuncId := 126
def n_slices_xorshift_Next : FuncId := 129
def n_wire_every : FuncId := 132
def n_pile_items_Len : FuncId := 156
def n_pile_items_Less : FuncId := 157
def n_pile_items_Swap : FuncId := 158
def n_pile_items_Pop : FuncId := 159
def n_pile_items_Len_q : FuncId := 1000156
def n_pile_items_Less_q : FuncId := 1000157
def n_pile_items_Swap_q : FuncId := 1000158
def n_slices_SortFunc_cell_Cell_cell_Cell : FuncId := 95
def F_c_law18_SpreadKept : F := ⟨2,[.inl 4],
 (.seq (.reg [.zz 0] [.o 2 (.bx (.k 0)),
 .o 4 (.mv (.c (.b false)))] false [1,2] [2])
 (.seq (.seq (.reg [] [.o 11 (.call n_c_law18_awake []),
 .o 12 (.un .not (.k 11))] false [1,2,12] [2])
 (.cond 12 (.seq (.reg [] [.o 4 (.mv (.c (.b false)))] false [4] [])
 .ret)
 .skip))
 (.seq (.reg [] [.z 13 (.ld true 6 .cp (.t 2)) 2,
 .z 14 (.call n_c_law17_Make [.k 13]) 1,
 .o 5 (.al ([.i .i64 0,.i .i64 0,.i .u64 0,.l .o 1 [],.l .o 1 []])),
 .s (.st 5 (.t 5) (.k 14))] false [1,2,5] [2,5])
 (.seq (.reg [] [.o 15 (.fa 0 (.k 2)),
 .o 16 (.ld false 1 .cp (.k 15)),
 .o 17 (.mv (.k 1)),
 .o 18 (.bd ([.i .i64 0,.i .i64 0,.i .u64 0,.l .o 2 [],.l .o 1 [],.i .i64 0]) [(0,1,.k 16),(1,1,.k 17)]),
 .o 6 (.al ([.i .i64 0,.i .i64 0,.i .u64 0,.l .o 2 [],.l .o 1 [],.i .i64 0])),
 .s (.st 6 (.t 6) (.k 18))] false [5,6] [5,6])
 (.seq (.reg [] [.z 19 (.ld true 6 .tk (.k 6)) 2,
 .z 20 (.call n_c_law17_Make [.k 19]) 1,
 .o 21 (.fd false 1 1 (.k 20)),
 .o 1 (.mv (.k 21))] false [1,5] [5])
 (.seq (.reg [] [.z 23 (.ld true 5 .cp (.t 5)) 2,
 .o 24 (.mv (.t 1)),
 .o 25 (.call n_spread_To [.k 23,.k 24]),
 .o 22 (.mv (.k 25)),
 .o 26 (.ex false 0 22),
 .o 27 (.ex false 1 22),
 .o 7 (.al ([.i .i64 0,.i .i64 0,.i .u64 0,.l .o 1 [],.l .o 1 []])),
 .s (.st 5 (.t 7) (.k 26)),
 .o 8 (.mv (.k 27))] false [1,5,7,8] [5,7])
 (.seq (.seq (.reg [] [.o 28 (.mv (.t 8)),
 .o 29 (.bin .neq (.k 28) (.c (.i .i64 0)))] false [1,5,7,8,29] [5,7])
 (.cond 29 (.seq (.reg [] [.o 30 (.mv (.k 8)),
 .o 31 (.bin .eql (.k 30) (.c (.i .i64 3))),
 .o 32 (.mv (.k 31)),
 .c 32 true 33 (.fa 0 (.t 5)),
 .c 32 true 34 (.ld false 1 .cp (.k 33)),
 .c 32 true 35 (.bin .eql (.k 34) (.c (.i .i64 1))),
 .o 36 (.pick (.k 32) (.k 35) (.c (.b false))),
 .o 37 (.mv (.k 36)),
 ⟨some 38,some (37,true),.ld true 5 .tk (.k 5),[],2⟩,
 .c 37 true 39 (.call n_image_Image_Value [.k 38]),
 .c 37 true 40 (.fd false 1 1 (.k 39)),
 .c 37 true 41 (.len false (.k 40)),
 .c 37 true 42 (.mv (.k 1)),
 .c 37 true 43 (.bin .mul (.c (.i .i64 62)) (.k 42)),
 .c 37 true 44 (.bin .gtr (.k 41) (.k 43)),
 .o 45 (.pick (.k 37) (.k 44) (.c (.b false))),
 .o 4 (.mv (.k 45))] false [4] [])
 .ret)
 .skip))
 (.seq (.reg [] [.z 47 (.ld true 5 .cp (.t 5)) 2,
 .o 48 (.mv (.t 1)),
 .o 49 (.call n_spread_Engine [.k 47,.k 48]),
 .o 46 (.mv (.k 49)),
 .o 50 (.ex false 0 46),
 .o 51 (.ex false 1 46),
 .o 9 (.mv (.k 50)),
 .o 10 (.mv (.k 51))] false [1,5,7,9,10] [5,7])
 (.seq (.seq (.reg [] [.o 52 (.mv (.k 10)),
 .o 53 (.bin .neq (.k 52) (.c (.i .i64 0))),
 .o 54 (.mv (.k 53)),
 .c 54 false 55 (.mv (.t 9)),
 .c 54 false 56 (.eq false .pt (.k 55) (.c (.nilp))),
 .o 57 (.pick (.k 54) (.c (.b true)) (.k 56))] false [1,5,7,9,57] [5,7])
 (.cond 57 (.seq (.reg [] [.o 4 (.mv (.c (.b false)))] false [4] [])
 .ret)
 .skip))
 (.seq (.reg [] [.z 58 (.ld true 5 .cp (.k 7)) 2,
 .z 59 (.call n_image_Image_Value [.k 58]) 2,
 .u 60 (.ld true 5 .cp (.t 5)) [0,1] 2,
 .z 61 (.call n_image_Image_Value [.k 60]) 2,
 .o 62 (.call n_value_Value_Same [.k 59,.k 61]),
 .o 63 (.mv (.k 62)),
 .c 63 true 64 (.mv (.t 9)),
 ⟨some 65,some (63,true),.call n_engine_Engine_Value [.k 64],[],2⟩,
 ⟨some 66,some (63,true),.ld true 5 .cp (.t 5),[6,7],2⟩,
 ⟨some 67,some (63,true),.call n_image_Image_Value [.k 66],[],2⟩,
 .c 63 true 68 (.call n_value_Value_Same [.k 65,.k 67]),
 .o 69 (.pick (.t 63) (.k 68) (.c (.b false))),
 .o 70 (.mv (.k 69)),
 .c 70 true 71 (.mv (.t 9)),
 .c 70 true 72 (.call n_engine_Engine_Param [.k 71]),
 ⟨some 73,some (70,true),.mv (.k 1),[13,14],0⟩,
 .c 70 true 74 (.bin .eql (.k 72) (.k 73)),
 .o 75 (.pick (.t 70) (.k 74) (.c (.b false))),
 .o 76 (.mv (.k 75)),
 .c 76 true 77 (.mv (.t 9)),
 .c 76 true 78 (.call n_engine_Engine_Kind [.k 77]),
 ⟨some 79,some (76,true),.fa 0 (.t 5),[19,20],0⟩,
 ⟨some 80,some (76,true),.ld false 1 .cp (.k 79),[19,20],0⟩,
 .c 76 true 81 (.bin .eql (.k 78) (.k 80)),
 .o 82 (.pick (.t 76) (.k 81) (.c (.b false))),
 .o 83 (.mv (.k 82)),
 .c 83 true 84 (.mv (.t 9)),
 .c 83 true 85 (.call n_engine_Engine_Busy [.k 84]),
 .c 83 true 86 (.len false (.k 85)),
 .c 83 true 87 (.bin .eql (.k 86) (.c (.i .i64 0))),
 .o 88 (.pick (.t 83) (.k 87) (.c (.b false))),
 .o 4 (.mv (.k 88))] true [4] [])
 .ret))))))))))⟩

def F_c_law12_Kind : F := ⟨2,[.inl 4,.inl 5],
 (.seq (.reg [] [.o 4 (.mv (.c (.i .i64 0))),
 .o 5 (.mv (.c (.i .i64 0)))] false [0,1] [])
 (.seq (.reg [] [.o 6 (.mv (.k 0)),
 .o 7 (.bin .and (.k 6) (.c (.i .i64 255))),
 .o 8 (.bin .rem (.k 7) (.c (.i .i64 4))),
 .o 9 (.bin .add (.c (.i .i64 1)) (.k 8)),
 .o 0 (.mv (.k 9))] false [0,1] [])
 (.seq (.seq (.reg [] [.o 10 (.mv (.t 0)),
 .o 11 (.bin .eql (.k 10) (.c (.i .i64 4)))] false [0,1,11] [])
 (.cond 11 (.seq (.reg [] [.o 12 (.mv (.k 0)),
 .u 13 (.mv (.k 1)) [0] 0,
 .u 14 (.bin .and (.k 13) (.c (.i .i64 255))) [0] 0,
 .u 15 (.bin .rem (.k 14) (.c (.i .i64 5))) [0] 0,
 .u 16 (.bin .shl (.c (.i .i64 1)) (.k 15)) [0] 0,
 .u 4 (.mv (.k 12)) [1,2,3,4] 0,
 .o 5 (.mv (.k 16))] true [4,5] [])
 .ret)
 .skip))
 (.seq (.reg [] [.o 17 (.mv (.k 0)),
 .o 18 (.mv (.k 1)),
 .o 19 (.bin .and (.k 18) (.c (.i .i64 255))),
 .o 20 (.bin .rem (.k 19) (.c (.i .i64 16))),
 .o 21 (.bin .add (.c (.i .i64 1)) (.k 20)),
 .o 4 (.mv (.k 17)),
 .o 5 (.mv (.k 21))] false [4,5] [])
 .ret))))⟩

def F_c_law04_Own : F := ⟨1,[.inr (2,true,2)],
 (.seq (.reg [] [.o 1 (.bx (.k 0)),
 .o 2 (.al ([.f .f64 0,.i .i64 0]))] false [1,2] [1,2])
 (.seq (.reg [] [.o 3 (.fa 0 (.t 1)),
 .o 4 (.ld false 1 .cp (.k 3)),
 .o 5 (.call n_c_law03_F [.k 4]),
 .u 6 (.fa 1 (.t 1)) [0,1,2] 0,
 .u 7 (.ld false 1 .cp (.k 6)) [0,1,2] 0,
 .o 8 (.bd ([.f .f64 0,.i .i64 0]) [(0,1,.k 5),(1,1,.k 7)]),
 .s (.st 2 (.t 2) (.k 8))] true [2] [2])
 .ret))⟩

def F_pile_Item_Canon : F := ⟨1,[.inr (2,true,2)],
 (.seq (.reg [] [.o 1 (.bx (.k 0)),
 .o 2 (.al ([.f .f64 0,.i .i64 0]))] false [1,2] [1,2])
 (.seq (.reg [] [.o 3 (.fa 0 (.t 1)),
 .o 4 (.ld false 1 .cp (.k 3)),
 .o 5 (.call n_real_Canon [.k 4]),
 .u 6 (.fa 1 (.t 1)) [0,1,2] 0,
 .u 7 (.ld false 1 .cp (.k 6)) [0,1,2] 0,
 .o 8 (.bd ([.f .f64 0,.i .i64 0]) [(0,1,.k 5),(1,1,.k 7)]),
 .s (.st 2 (.t 2) (.k 8))] true [2] [2])
 .ret))⟩

def F_pile_Sorted : F := ⟨1,[.inl 2],
 (.seq (.reg [.zz 0] [.o 2 (.mv (.c (.l .o 2 [])))] false [0] [])
 (.seq (.reg [] [.z 3 (.mv (.k 0)) 2,
 .o 4 (.call n_pile_New [.k 3]),
 .o 5 (.call n_pile_Pile_All [.k 4]),
 .o 2 (.mv (.k 5))] false [2] [])
 .ret))⟩

def F_value_Of : F := ⟨3,[.inr (6,true,3),.inl 7],
 (.seq (.reg [] [.o 6 (.al ([.i .i64 0,.l .o 2 [],.i .i64 0])),
 .o 7 (.mv (.c (.i .i64 0)))] false [0,1,2,6] [6])
 (.seq (.seq (.reg [] [.o 12 (.mv (.t 0)),
 .o 13 (.mv (.t 1)),
 .o 14 (.call n_op_Legal [.k 12,.k 13]),
 .o 8 (.mv (.k 14))] false [0,1,2,6,8] [6])
 (.seq (.reg [] [.o 15 (.mv (.t 8)),
 .o 16 (.bin .neq (.k 15) (.c (.i .i64 0)))] false [0,1,2,6,8,16] [6])
 (.cond 16 (.seq (.reg [] [.o 17 (.bd ([.i .i64 0,.l .o 2 [],.i .i64 0]) []),
 .o 18 (.mv (.k 8)),
 .s (.st 3 (.t 6) (.k 17)),
 .o 7 (.mv (.k 18))] false [6,7] [6])
 .ret)
 .skip)))
 (.seq (.reg [] [.o 19 (.mv (.t 0)),
 .o 20 (.bd ([.i .i64 0,.l .o 2 [],.i .i64 0]) [(0,1,.k 19)]),
 .o 9 (.al ([.i .i64 0,.l .o 2 [],.i .i64 0])),
 .s (.st 3 (.t 9) (.k 20))] false [0,1,2,6,9] [6,9])
 (.seq (.seq (.reg [] [.o 21 (.mv (.k 0))] false [1,2,6,9,21] [6,9])
 (.blk 0 (.seq (.reg [] [.o 23 (.bin .eql (.t 21) (.c (.i .i64 1))),
 .o 22 (.mv (.k 23))] false [1,2,6,9,21,22] [6,9])
 (.cond 22 (.reg [] [.o 24 (.mv (.k 1)),
 .o 25 (.mv (.k 2)),
 .o 26 (.call n_value_bag [.k 24,.k 25]),
 .o 27 (.fa 1 (.t 9)),
 .s (.st 1 (.k 27) (.k 26))] false [6,9] [6,9])
 (.seq (.reg [] [.o 29 (.bin .eql (.t 21) (.c (.i .i64 2))),
 .o 28 (.mv (.k 29))] false [1,2,6,9,21,28] [6,9])
 (.cond 28 (.reg [] [.o 30 (.mv (.k 2)),
 .o 31 (.call n_value_line [.k 30]),
 .o 32 (.fa 1 (.t 9)),
 .s (.st 1 (.k 32) (.k 31))] false [6,9] [6,9])
 (.seq (.reg [] [.o 34 (.bin .eql (.t 21) (.c (.i .i64 3))),
 .o 33 (.mv (.k 34))] false [1,2,6,9,21,33] [6,9])
 (.cond 33 (.reg [] [.o 35 (.mv (.k 1)),
 .o 36 (.mv (.k 2)),
 .o 37 (.call n_value_sum [.c (.i .i64 0),.k 35,.k 36]),
 .o 38 (.fa 2 (.t 9)),
 .s (.st 1 (.k 38) (.k 37))] false [6,9] [6,9])
 (.seq (.reg [] [.o 40 (.bin .eql (.k 21) (.c (.i .i64 4))),
 .o 39 (.mv (.k 40))] false [1,2,6,9,39] [6,9])
 (.cond 39 (.seq (.reg [] [.o 42 (.mv (.t 1)),
 .o 43 (.callp n_net_New [.k 42]),
 .o 41 (.mv (.k 43)),
 .o 44 (.ex false 0 41),
 .o 45 (.ex false 1 41),
 .o 10 (.al ([.i .i64 0,.l .o 2 [],.l .o 1 []])),
 .s (.st 3 (.t 10) (.k 44)),
 .o 11 (.mv (.k 45))] false [1,2,6,9,10] [6,9,10])
 (.reg [] [.z 46 (.ld true 3 .tk (.k 10)) 2,
 .o 47 (.call n_net_Net_Out [.k 46,.c (.i .i64 0)]),
 .o 48 (.mv (.k 1)),
 .o 49 (.mv (.k 2)),
 .o 50 (.call n_value_sum [.k 47,.k 48,.k 49]),
 .o 51 (.fa 2 (.t 9)),
 .s (.st 1 (.k 51) (.k 50))] false [6,9] [6,9]))
 .skip))))))))))
 (.seq (.reg [] [.o 52 (.ld true 3 .tk (.k 9)),
 .s (.st 3 (.t 6) (.k 52)),
 .o 7 (.mv (.c (.i .i64 0)))] false [6,7] [6])
 .ret)))))⟩

def F_cell_New : F := ⟨0,[.inl 0],
 (.seq (.reg [] [.o 0 (.mv (.c (.nilp)))] false [] [])
 (.seq (.reg [] [.o 1 (.bd ([.l .x 3 [],.i .u64 0]) []),
 .o 2 (.bg (.k 1)),
 .o 0 (.mv (.k 2))] false [0] [])
 .ret))⟩

def F_value_Value_Same : F := ⟨2,[.inl 4],
 (.seq (.reg [.zz 0,.zz 1] [.o 2 (.bx (.k 0)),
 .o 3 (.bx (.k 1)),
 .o 4 (.mv (.c (.b false)))] false [2,3] [2,3])
 (.seq (.reg [] [.o 5 (.fa 0 (.t 2)),
 .o 6 (.ld false 1 .cp (.k 5)),
 .o 7 (.fa 0 (.t 3)),
 .o 8 (.ld false 1 .cp (.k 7)),
 .o 9 (.bin .eql (.k 6) (.k 8)),
 .o 10 (.mv (.k 9)),
 .c 10 true 11 (.fa 2 (.t 2)),
 .c 10 true 12 (.ld false 1 .cp (.k 11)),
 .c 10 true 13 (.fa 2 (.t 3)),
 .c 10 true 14 (.ld false 1 .cp (.k 13)),
 .c 10 true 15 (.bin .eql (.k 12) (.k 14)),
 .o 16 (.pick (.k 10) (.k 15) (.c (.b false))),
 .o 17 (.mv (.k 16)),
 .c 17 true 18 (.fa 1 (.k 2)),
 ⟨some 19,some (17,true),.ld false 1 .tk (.k 18),[],2⟩,
 .c 17 true 20 (.fa 1 (.k 3)),
 ⟨some 21,some (17,true),.ld false 1 .tk (.k 20),[],2⟩,
 .c 17 true 22 (.call n_slices_EqualFunc_pile_Item_pile_Item_pile_Item_pile_Item_1 [.k 19,.k 21,.c (.fn n_value_Value_Same_1 [])]),
 .o 23 (.pick (.k 17) (.k 22) (.c (.b false))),
 .o 4 (.mv (.k 23))] false [4] [])
 .ret))⟩

def F_c_law18_awake : F := ⟨0,[.inl 0],
 (.seq (.reg [] [.o 0 (.mv (.c (.b false)))] false [] [])
 (.seq (.reg [] [.z 8 (.bs 1 2 (.i .i64 0) [(0,.c (.i .i64 7)),(1,.c (.i .i64 0))]) 1,
 .z 9 (.bd ([.i .i64 0,.i .i64 0,.i .u64 0,.l .o 1 [],.l .o 1 []]) [(0,1,.c (.i .i64 3)),(1,1,.c (.i .i64 2)),(4,1,.k 8)]) 2,
 .o 10 (.call n_spread_To [.k 9,.c (.i .i64 3)]),
 .o 7 (.mv (.k 10)),
 .o 11 (.ex false 0 7),
 .o 12 (.ex false 1 7),
 .o 1 (.al ([.i .i64 0,.i .i64 0,.i .u64 0,.l .o 1 [],.l .o 1 []])),
 .s (.st 5 (.t 1) (.k 11)),
 .o 2 (.mv (.k 12))] false [1,2] [1])
 (.seq (.reg [] [.z 14 (.bd ([.i .i64 0,.i .i64 0,.i .u64 0,.l .o 1 [],.l .o 1 []]) []) 2,
 .o 15 (.call n_spread_Lay [.k 14]),
 .o 13 (.mv (.k 15)),
 .o 16 (.ex false 0 13),
 .o 17 (.ex false 1 13),
 .o 3 (.mv (.k 16)),
 .o 4 (.mv (.k 17))] false [1,2,4] [1])
 (.seq (.reg [] [.z 19 (.ld true 5 .cp (.t 1)) 2,
 .o 20 (.call n_spread_Engine [.k 19,.c (.i .i64 0)]),
 .o 18 (.mv (.k 20)),
 .o 21 (.ex false 0 18),
 .o 22 (.ex false 1 18),
 .o 5 (.mv (.k 21)),
 .o 6 (.mv (.k 22))] false [1,2,4,6] [1])
 (.seq (.reg [] [.o 23 (.mv (.k 2)),
 .o 24 (.bin .eql (.k 23) (.c (.i .i64 0))),
 .o 25 (.mv (.k 24)),
 .c 25 true 26 (.fa 4 (.t 1)),
 .c 25 true 27 (.ld false 1 .cp (.k 26)),
 .c 25 true 28 (.len false (.k 27)),
 .c 25 true 29 (.bin .eql (.k 28) (.c (.i .i64 3))),
 .o 30 (.pick (.k 25) (.k 29) (.c (.b false))),
 .o 31 (.mv (.k 30)),
 .c 31 true 32 (.fa 4 (.t 1)),
 .c 31 true 33 (.ld false 1 .cp (.k 32)),
 .c 31 true 34 (.ia 1 none (.k 33) (.c (.i .i64 0))),
 .c 31 true 35 (.ld false 1 .cp (.k 34)),
 .c 31 true 36 (.bin .eql (.k 35) (.c (.i .i64 3))),
 .o 37 (.pick (.k 31) (.k 36) (.c (.b false))),
 .o 38 (.mv (.k 37)),
 .c 38 true 39 (.fa 4 (.k 1)),
 .c 38 true 40 (.ld false 1 .tk (.k 39)),
 .c 38 true 41 (.ia 1 none (.k 40) (.c (.i .i64 2))),
 .c 38 true 42 (.ld false 1 .cp (.k 41)),
 .c 38 true 43 (.bin .eql (.k 42) (.c (.i .i64 2))),
 .o 44 (.pick (.k 38) (.k 43) (.c (.b false))),
 .o 45 (.mv (.k 44)),
 .c 45 true 46 (.mv (.k 4)),
 .c 45 true 47 (.bin .eql (.k 46) (.c (.i .i64 6))),
 .o 48 (.pick (.k 45) (.k 47) (.c (.b false))),
 .o 49 (.mv (.k 48)),
 .c 49 true 50 (.mv (.k 6)),
 .c 49 true 51 (.bin .eql (.k 50) (.c (.i .i64 5))),
 .o 52 (.pick (.k 49) (.k 51) (.c (.b false))),
 .o 0 (.mv (.k 52))] false [0] [])
 .ret)))))⟩

def F_c_law17_Make : F := ⟨1,[.inr (2,true,5)],
 (.seq (.reg [.zz 0] [.o 1 (.bx (.k 0)),
 .o 2 (.al ([.i .i64 0,.i .i64 0,.i .u64 0,.l .x 1 [],.l .x 1 []]))] false [1,2] [1,2])
 (.seq (.reg [] [.o 13 (.fa 0 (.t 1)),
 .o 14 (.ld false 1 .cp (.k 13)),
 .o 15 (.fa 1 (.t 1)),
 .o 16 (.ld false 1 .cp (.k 15)),
 .o 17 (.call n_c_law12_Kind [.k 14,.k 16]),
 .o 12 (.mv (.k 17)),
 .o 18 (.ex false 0 12),
 .o 19 (.ex false 1 12),
 .o 3 (.mv (.k 18)),
 .o 4 (.mv (.k 19))] false [1,2,3,4] [1,2])
 (.seq (.reg [] [.o 20 (.mv (.t 3)),
 .o 21 (.mv (.t 4)),
 .o 22 (.fa 2 (.t 1)),
 .o 23 (.ld false 1 .cp (.k 22)),
 .o 24 (.bd ([.i .i64 0,.i .i64 0,.i .u64 0,.l .x 1 [],.l .x 1 []]) [(0,1,.k 20),(1,1,.k 21),(2,1,.k 23)]),
 .o 5 (.al ([.i .i64 0,.i .i64 0,.i .u64 0,.l .x 1 [],.l .x 1 []])),
 .s (.st 5 (.t 5) (.k 24))] false [1,2,3,4,5] [1,2,5])
 (.seq (.reg [] [.o 25 (.mv (.t 4)),
 .z 26 (.bs 1 5 (.i .i64 0) [(0,.c (.i .i64 0)),(1,.k 25),(2,.c (.i .i64 1)),(3,.c (.i .i64 0)),(4,.c (.i .i64 0))]) 1,
 .u 27 (.mv (.t 3)) [0,1] 0,
 .o 28 (.ia 1 none (.k 26) (.k 27)),
 .o 29 (.ld false 1 .cp (.k 28)),
 .u 30 (.mv (.t 4)) [0,1,2,3,4] 0,
 .u 31 (.bs 1 5 (.i .i64 0) [(0,.c (.i .i64 0)),(1,.c (.i .i64 0)),(2,.c (.i .i64 0)),(3,.k 30),(4,.c (.i .i64 1))]) [0,1,2,3,4] 1,
 .u 32 (.mv (.t 3)) [0,1,2,3,4,5,6] 0,
 .u 33 (.ia 1 none (.k 31) (.k 32)) [0,1,2,3,4] 0,
 .u 34 (.ld false 1 .cp (.k 33)) [0,1,2,3,4] 0,
 .u 6 (.mv (.k 29)) [5,6,7,8,9] 0,
 .o 7 (.mv (.k 34))] true [1,2,3,5,6,7] [1,2,5])
 (.seq (.seq (.reg [] [.o 35 (.mv (.t 6)),
 .o 36 (.mv (.c (.i .i64 0)))] false [1,2,3,5,6,7,35,36] [1,2,5])
 (.blk 0 (.loop (.seq (.reg [] [.o 37 (.bin .lss (.t 36) (.t 35))] false [1,2,3,5,6,7,35,36,37] [1,2,5])
 (.seq (.cond 37 .skip
 (.exit 0))
 (.seq (.blk 1 (.reg [] [.o 38 (.fa 3 (.t 5)),
 .o 39 (.ld false 1 .tk (.k 38)),
 .z 40 (.bs 2 0 (.a ([.f .f64 0,.i .i64 0])) []) 1,
 .o 41 (.bs 1 1 (.l .o 2 []) [(0,.k 40)]),
 .o 42 (.app 1 24 (.k 39) (.k 41)),
 .o 43 (.fa 3 (.t 5)),
 .s (.st 1 (.k 43) (.k 42))] false [1,2,3,5,6,7,35,36] [1,2,5]))
 (.reg [] [.o 44 (.bin .add (.k 36) (.c (.i .i64 1))),
 .o 36 (.mv (.k 44))] false [1,2,3,5,6,7,35,36] [1,2,5])))))))
 (.seq (.seq (.reg [] [.o 8 (.mv (.c (.i .i64 0)))] false [1,2,3,5,6,7,8] [1,2,5])
 (.blk 2 (.loop (.seq (.seq (.reg [] [.o 45 (.mv (.t 8)),
 .o 46 (.fa 3 (.t 1)),
 .o 47 (.ld false 1 .cp (.k 46)),
 .o 48 (.len false (.k 47)),
 .o 49 (.bin .lss (.k 45) (.k 48)),
 .o 50 (.mv (.k 49)),
 .c 50 true 51 (.mv (.t 8)),
 .c 50 true 52 (.bin .lss (.k 51) (.c (.i .i64 60))),
 .o 53 (.pick (.k 50) (.k 52) (.c (.b false))),
 .o 54 (.mv (.k 53)),
 .c 54 true 55 (.mv (.t 6)),
 .c 54 true 56 (.bin .gtr (.k 55) (.c (.i .i64 0))),
 .o 57 (.pick (.k 54) (.k 56) (.c (.b false)))] false [1,2,3,5,6,7,8,57] [1,2,5])
 (.cond 57 .skip
 (.exit 2)))
 (.seq (.blk 3 (.reg [] [.o 60 (.fa 3 (.t 5)),
 .o 61 (.lda 1 (.k 60)),
 .u 62 (.mv (.t 8)) [0,1] 0,
 .u 63 (.mv (.t 6)) [0,1,2] 0,
 .u 64 (.bin .rem (.k 62) (.k 63)) [0,1] 0,
 .u 65 (.fa 3 (.t 5)) [0,1,2,3,4] 0,
 .u 66 (.lda 1 (.k 65)) [0,1,2,3,4] 1,
 .u 67 (.mv (.t 8)) [0,1,2,3,4,5,6] 0,
 .u 68 (.mv (.t 6)) [0,1,2,3,4,5,6,7] 0,
 .u 69 (.bin .rem (.k 67) (.k 68)) [0,1,2,3,4,5,6] 0,
 .u 70 (.ia 1 none (.k 66) (.k 69)) [0,1,2,3,4] 0,
 .u 71 (.ld false 1 .tk (.k 70)) [0,1,2,3,4] 0,
 .u 72 (.fa 3 (.t 1)) [0,1,2,3,4,5,6,7,8,9,10,11] 0,
 .u 73 (.ld false 1 .cp (.k 72)) [0,1,2,3,4,5,6,7,8,9,10,11] 0,
 .u 74 (.mv (.t 8)) [0,1,2,3,4,5,6,7,8,9,10,11,12,13] 0,
 .u 75 (.ia 2 none (.k 73) (.k 74)) [0,1,2,3,4,5,6,7,8,9,10,11] 0,
 .u 76 (.ld true 2 .cp (.k 75)) [0,1,2,3,4,5,6,7,8,9,10,11] 0,
 .u 77 (.call n_c_law04_Own [.k 76]) [0,1,2,3,4,5,6,7,8,9,10,11] 0,
 .u 78 (.call n_pile_Item_Canon [.k 77]) [0,1,2,3,4,5,6,7,8,9,10,11] 0,
 .u 79 (.bs 2 1 (.a ([.f .f64 0,.i .i64 0])) [(0,.k 78)]) [0,1,2,3,4,5,6,7,8,9,10,11] 0,
 .u 80 (.app 2 16 (.k 71) (.k 79)) [0,1,2,3,4] 1,
 .o 81 (.ia 1 none (.k 61) (.k 64)),
 .s (.st 1 (.k 81) (.k 80))] true [1,2,3,5,6,7,8] [1,2,5]))
 (.reg [] [.o 58 (.mv (.k 8)),
 .o 59 (.bin .add (.k 58) (.c (.i .i64 1))),
 .o 8 (.mv (.k 59))] false [1,2,3,5,6,7,8] [1,2,5]))))))
 (.seq (.seq (.reg [] [.o 82 (.fa 3 (.t 5)),
 .z 83 (.lda 1 (.k 82)) 1,
 .o 84 (.len false (.k 83)),
 .o 85 (.mv (.c (.i .i64 0)))] false [1,2,3,5,7,84,85] [1,2,5])
 (.blk 4 (.loop (.seq (.reg [] [.o 86 (.bin .lss (.t 85) (.t 84))] false [1,2,3,5,7,84,85,86] [1,2,5])
 (.seq (.cond 86 .skip
 (.exit 4))
 (.seq (.blk 5 (.seq (.reg [] [.o 87 (.mv (.t 85)),
 .o 9 (.mv (.k 87))] false [1,2,3,5,7,9,84,85] [1,2,5])
 (.seq (.reg [] [.o 88 (.mv (.t 3)),
 .o 89 (.bin .eql (.k 88) (.c (.i .i64 1)))] false [1,2,3,5,7,9,84,85,89] [1,2,5])
 (.cond 89 (.reg [] [.o 90 (.fa 3 (.t 5)),
 .o 91 (.lda 1 (.k 90)),
 .u 92 (.mv (.t 9)) [0,1] 0,
 .u 93 (.fa 3 (.t 5)) [0,1,2] 0,
 .u 94 (.lda 1 (.k 93)) [0,1,2] 1,
 .u 95 (.mv (.t 9)) [0,1,2,3,4] 0,
 .u 96 (.ia 1 none (.k 94) (.k 95)) [0,1,2] 0,
 .u 97 (.ld false 1 .cp (.k 96)) [0,1,2] 2,
 .u 98 (.call n_c_law17_sorted [.k 97]) [0,1,2] 0,
 .o 99 (.ia 1 none (.k 91) (.k 92)),
 .s (.st 1 (.k 99) (.k 98))] true [1,2,3,5,7,84,85] [1,2,5])
 .skip))))
 (.reg [] [.o 100 (.bin .add (.k 85) (.c (.i .i64 1))),
 .o 85 (.mv (.k 100))] false [1,2,3,5,7,84,85] [1,2,5])))))))
 (.seq (.seq (.reg [] [.o 101 (.mv (.k 7)),
 .o 102 (.mv (.c (.i .i64 0)))] false [1,2,5,101,102] [1,2,5])
 (.blk 6 (.loop (.seq (.reg [] [.o 103 (.bin .lss (.t 102) (.t 101))] false [1,2,5,101,102,103] [1,2,5])
 (.seq (.cond 103 .skip
 (.exit 6))
 (.seq (.blk 7 (.seq (.reg [] [.o 104 (.mv (.t 102)),
 .o 10 (.mv (.k 104))] false [1,2,5,10,101,102] [1,2,5])
 (.seq (.reg [] [.o 11 (.mv (.c (.i .i64 0)))] false [1,2,5,10,11,101,102] [1,2,5])
 (.seq (.seq (.reg [] [.o 105 (.mv (.t 10)),
 .o 106 (.fa 4 (.t 1)),
 .o 107 (.ld false 1 .cp (.k 106)),
 .o 108 (.len false (.k 107)),
 .o 109 (.bin .lss (.k 105) (.k 108))] false [1,2,5,10,11,101,102,109] [1,2,5])
 (.cond 109 (.reg [] [.o 110 (.fa 4 (.t 1)),
 .o 111 (.ld false 1 .cp (.k 110)),
 .o 112 (.mv (.k 10)),
 .o 113 (.ia 1 none (.k 111) (.k 112)),
 .o 114 (.ld false 1 .cp (.k 113)),
 .o 115 (.bin .and (.k 114) (.c (.i .i64 1099511627775))),
 .o 11 (.mv (.k 115))] false [1,2,5,11,101,102] [1,2,5])
 .skip))
 (.reg [] [.o 116 (.fa 4 (.t 5)),
 .o 117 (.ld false 1 .tk (.k 116)),
 .o 118 (.mv (.k 11)),
 .o 119 (.bs 1 1 (.i .i64 0) [(0,.k 118)]),
 .o 120 (.app 1 8 (.k 117) (.k 119)),
 .o 121 (.fa 4 (.t 5)),
 .s (.st 1 (.k 121) (.k 120))] false [1,2,5,101,102] [1,2,5])))))
 (.reg [] [.o 122 (.bin .add (.k 102) (.c (.i .i64 1))),
 .o 102 (.mv (.k 122))] false [1,2,5,101,102] [1,2,5])))))))
 (.seq (.reg [] [.o 123 (.ld true 5 .tk (.k 5)),
 .s (.st 5 (.t 2) (.k 123))] false [2] [2])
 .ret)))))))))⟩

def F_spread_To : F := ⟨2,[.inr (4,true,5),.inl 5],
 (.seq (.reg [.zz 0] [.o 2 (.bx (.k 0)),
 .o 4 (.al ([.i .i64 0,.i .i64 0,.i .u64 0,.l .o 1 [],.l .o 1 []])),
 .o 5 (.mv (.c (.i .i64 0)))] false [1,2,4] [2,4])
 (.seq (.seq (.reg [] [.z 10 (.ld true 5 .cp (.t 2)) 2,
 .o 11 (.call n_image_Image_Check [.k 10]),
 .o 6 (.mv (.k 11))] false [1,2,4,6] [2,4])
 (.seq (.reg [] [.o 12 (.mv (.t 6)),
 .o 13 (.bin .neq (.k 12) (.c (.i .i64 0)))] false [1,2,4,6,13] [2,4])
 (.cond 13 (.seq (.reg [] [.o 14 (.bd ([.i .i64 0,.i .i64 0,.i .u64 0,.l .o 1 [],.l .o 1 []]) []),
 .o 15 (.mv (.k 6)),
 .s (.st 5 (.t 4) (.k 14)),
 .o 5 (.mv (.k 15))] false [4,5] [4])
 .ret)
 .skip)))
 (.seq (.seq (.reg [] [.o 16 (.fa 0 (.t 2)),
 .o 17 (.ld false 1 .cp (.k 16)),
 .o 18 (.mv (.t 1)),
 .o 19 (.call n_op_Legal [.k 17,.k 18]),
 .o 7 (.mv (.k 19))] false [1,2,4,7] [2,4])
 (.seq (.reg [] [.o 20 (.mv (.t 7)),
 .o 21 (.bin .neq (.k 20) (.c (.i .i64 0)))] false [1,2,4,7,21] [2,4])
 (.cond 21 (.seq (.reg [] [.o 22 (.bd ([.i .i64 0,.i .i64 0,.i .u64 0,.l .o 1 [],.l .o 1 []]) []),
 .o 23 (.mv (.k 7)),
 .s (.st 5 (.t 4) (.k 22)),
 .o 5 (.mv (.k 23))] false [4,5] [4])
 .ret)
 .skip)))
 (.seq (.reg [] [.o 24 (.ld true 5 .cp (.t 2)),
 .o 8 (.al ([.i .i64 0,.i .i64 0,.i .u64 0,.l .o 1 [],.l .o 1 []])),
 .s (.st 5 (.t 8) (.k 24))] false [1,2,4,8] [2,4,8])
 (.seq (.reg [] [.z 25 (.ld true 5 .cp (.t 2)) 2,
 .o 26 (.call n_image_Image_Value [.k 25]),
 .o 9 (.al ([.i .i64 0,.l .o 2 [],.i .i64 0])),
 .s (.st 3 (.t 9) (.k 26))] false [1,2,4,8,9] [2,4,8,9])
 (.seq (.reg [] [.o 27 (.mv (.t 1)),
 .o 28 (.fa 1 (.t 8)),
 .s (.st 1 (.k 28) (.k 27))] false [1,2,4,8,9] [2,4,8,9])
 (.seq (.blk 0 (.seq (.reg [] [.o 30 (.mv (.t 1)),
 .o 31 (.fa 1 (.t 2)),
 .o 32 (.ld false 1 .cp (.k 31)),
 .o 33 (.bin .eql (.k 30) (.k 32)),
 .o 29 (.mv (.k 33))] false [1,2,4,8,9,29] [2,4,8,9])
 (.cond 29 .skip
 (.seq (.seq (.reg [] [.o 35 (.fa 0 (.t 2)),
 .o 36 (.ld false 1 .cp (.k 35)),
 .o 37 (.bin .eql (.k 36) (.c (.i .i64 1))),
 .o 38 (.mv (.k 37)),
 .c 38 true 39 (.fa 1 (.t 9)),
 .c 38 true 40 (.ld false 1 .cp (.k 39)),
 .c 38 true 41 (.len false (.k 40)),
 .c 38 true 42 (.mv (.t 1)),
 .c 38 true 43 (.bin .mul (.k 42) (.c (.i .i64 62))),
 .c 38 true 44 (.bin .gtr (.k 41) (.k 43)),
 .o 45 (.pick (.k 38) (.k 44) (.c (.b false))),
 .o 34 (.mv (.k 45))] false [1,2,4,8,9,34] [2,4,8,9])
 (.cond 34 .skip
 (.reg [] [.o 46 (.fa 0 (.t 2)),
 .o 47 (.ld false 1 .cp (.k 46)),
 .o 48 (.bin .eql (.k 47) (.c (.i .i64 2))),
 .o 49 (.mv (.k 48)),
 .c 49 true 50 (.fa 1 (.t 9)),
 .c 49 true 51 (.ld false 1 .cp (.k 50)),
 .c 49 true 52 (.len false (.k 51)),
 ⟨some 53,some (49,true),.mv (.t 1),[4,5,6],0⟩,
 ⟨some 54,some (49,true),.call n_image_Room [.k 53],[4,5,6],0⟩,
 .c 49 true 55 (.bin .gtr (.k 52) (.k 54)),
 .o 56 (.pick (.t 49) (.k 55) (.c (.b false))),
 .o 34 (.mv (.k 56))] true [1,2,4,8,9,34] [2,4,8,9])))
 (.cond 34 (.seq (.reg [] [.o 57 (.bd ([.i .i64 0,.i .i64 0,.i .u64 0,.l .o 1 [],.l .o 1 []]) []),
 .s (.st 5 (.t 4) (.k 57)),
 .o 5 (.mv (.c (.i .i64 3)))] false [4,5] [4])
 .ret)
 (.seq (.reg [] [.o 59 (.fa 0 (.t 2)),
 .o 60 (.ld false 1 .cp (.k 59)),
 .o 61 (.bin .eql (.k 60) (.c (.i .i64 1))),
 .o 58 (.mv (.k 61))] false [1,2,4,8,9,58] [2,4,8,9])
 (.cond 58 (.reg [] [.o 62 (.fa 1 (.k 9)),
 .z 63 (.ld false 1 .tk (.k 62)) 2,
 .o 64 (.mv (.k 1)),
 .z 65 (.call n_spread_Deal [.k 63,.k 64]) 1,
 .o 66 (.fa 3 (.t 8)),
 .s (.st 1 (.k 66) (.k 65))] false [4,8] [4,8])
 (.seq (.reg [] [.o 68 (.fa 0 (.k 2)),
 .o 69 (.ld false 1 .cp (.k 68)),
 .o 70 (.bin .eql (.k 69) (.c (.i .i64 3))),
 .o 67 (.mv (.k 70))] false [1,4,8,9,67] [4,8,9])
 (.cond 67 (.reg [] [.o 71 (.fa 2 (.k 9)),
 .o 72 (.ld false 1 .cp (.k 71)),
 .o 73 (.mv (.k 1)),
 .z 74 (.call n_wire_Even [.k 72,.k 73]) 1,
 .o 75 (.fa 4 (.t 8)),
 .s (.st 1 (.k 75) (.k 74))] false [4,8] [4,8])
 .skip)))))))))
 (.seq (.reg [] [.o 76 (.ld true 5 .tk (.k 8)),
 .s (.st 5 (.t 4) (.k 76)),
 .o 5 (.mv (.c (.i .i64 0)))] false [4,5] [4])
 .ret))))))))⟩

def F_image_Image_Value : F := ⟨1,[.inr (2,true,3)],
 (.seq (.reg [.zz 0] [.o 1 (.bx (.k 0)),
 .o 2 (.al ([.i .i64 0,.l .o 2 [],.i .i64 0]))] false [1,2] [1,2])
 (.seq (.reg [] [.o 8 (.fa 0 (.t 1)),
 .o 9 (.ld false 1 .cp (.k 8)),
 .o 10 (.bd ([.i .i64 0,.l .o 2 [],.i .i64 0]) [(0,1,.k 9)]),
 .o 3 (.al ([.i .i64 0,.l .o 2 [],.i .i64 0])),
 .s (.st 3 (.t 3) (.k 10))] false [1,2,3] [1,2,3])
 (.seq (.seq (.reg [] [.o 11 (.fa 3 (.t 1)),
 .o 12 (.ld false 1 .cp (.k 11)),
 .o 13 (.len false (.t 12)),
 .o 14 (.mv (.c (.i .i64 0)))] false [1,2,3,12,13,14] [1,2,3])
 (.blk 0 (.loop (.seq (.reg [] [.o 15 (.bin .lss (.t 14) (.t 13))] false [1,2,3,12,13,14,15] [1,2,3])
 (.seq (.cond 15 .skip
 (.exit 0))
 (.seq (.blk 1 (.seq (.reg [] [.o 16 (.ia 1 none (.t 12) (.t 14)),
 .o 17 (.ld false 1 .cp (.k 16)),
 .o 5 (.mv (.k 17))] false [1,2,3,5,12,13,14] [1,2,3])
 (.reg [] [.o 18 (.fa 1 (.t 3)),
 .o 19 (.ld false 1 .tk (.k 18)),
 .o 20 (.mv (.k 5)),
 .z 21 (.app 2 16 (.k 19) (.k 20)) 1,
 .o 22 (.fa 1 (.t 3)),
 .s (.st 1 (.k 22) (.k 21))] false [1,2,3,12,13,14] [1,2,3])))
 (.reg [] [.o 23 (.bin .add (.k 14) (.c (.i .i64 1))),
 .o 14 (.mv (.k 23))] false [1,2,3,12,13,14] [1,2,3])))))))
 (.seq (.seq (.reg [] [.o 24 (.fa 0 (.t 1)),
 .o 25 (.ld false 1 .cp (.k 24)),
 .o 26 (.bin .eql (.k 25) (.c (.i .i64 1)))] false [1,2,3,26] [1,2,3])
 (.cond 26 (.reg [] [.o 27 (.fa 1 (.t 3)),
 .z 28 (.ld false 1 .cp (.k 27)) 2,
 .o 29 (.call n_pile_Sorted [.k 28]),
 .o 30 (.fa 1 (.t 3)),
 .s (.st 1 (.k 30) (.k 29))] false [1,2,3] [1,2,3])
 .skip))
 (.seq (.seq (.reg [] [.o 31 (.fa 4 (.k 1)),
 .o 32 (.ld false 1 .tk (.k 31)),
 .o 33 (.len false (.t 32)),
 .o 34 (.mv (.c (.i .i64 0)))] false [2,3,32,33,34] [2,3])
 (.blk 2 (.loop (.seq (.reg [] [.o 35 (.bin .lss (.t 34) (.t 33))] false [2,3,32,33,34,35] [2,3])
 (.seq (.cond 35 .skip
 (.exit 2))
 (.seq (.blk 3 (.seq (.reg [] [.o 36 (.ia 1 none (.t 32) (.t 34)),
 .o 37 (.ld false 1 .cp (.k 36)),
 .o 7 (.mv (.k 37))] false [2,3,7,32,33,34] [2,3])
 (.reg [] [.o 38 (.fa 2 (.t 3)),
 .o 39 (.ld false 1 .cp (.k 38)),
 .o 40 (.mv (.k 7)),
 .o 41 (.bin .add (.k 39) (.k 40)),
 .o 42 (.fa 2 (.t 3)),
 .s (.st 1 (.k 42) (.k 41))] false [2,3,32,33,34] [2,3])))
 (.reg [] [.o 43 (.bin .add (.k 34) (.c (.i .i64 1))),
 .o 34 (.mv (.k 43))] false [2,3,32,33,34] [2,3])))))))
 (.seq (.reg [] [.o 44 (.ld true 3 .tk (.k 3)),
 .s (.st 3 (.t 2) (.k 44))] false [2] [2])
 .ret))))))⟩

def F_spread_Engine : F := ⟨2,[.inl 4,.inl 5],
 (.seq (.reg [.zz 0] [.o 2 (.bx (.k 0)),
 .o 4 (.mv (.c (.nilp))),
 .o 5 (.mv (.c (.i .i64 0)))] false [1,2] [2])
 (.seq (.reg [] [.z 9 (.ld true 5 .cp (.t 2)) 2,
 .o 10 (.mv (.k 1)),
 .o 11 (.call n_spread_To [.k 9,.k 10]),
 .o 8 (.mv (.k 11)),
 .o 12 (.ex false 0 8),
 .o 13 (.ex false 1 8),
 .s (.st 5 (.t 2) (.k 12)),
 .o 6 (.mv (.k 13))] false [2,6] [2])
 (.seq (.seq (.reg [] [.o 14 (.mv (.t 6)),
 .o 15 (.bin .neq (.k 14) (.c (.i .i64 0)))] false [2,6,15] [2])
 (.cond 15 (.seq (.reg [] [.o 16 (.mv (.k 6)),
 .o 4 (.mv (.c (.nilp))),
 .o 5 (.mv (.k 16))] false [4,5] [])
 .ret)
 .skip))
 (.seq (.reg [] [.z 18 (.ld true 5 .cp (.t 2)) 2,
 .o 19 (.call n_spread_Lay [.k 18]),
 .o 17 (.mv (.k 19)),
 .o 20 (.ex false 0 17),
 .o 21 (.ex false 1 17),
 .o 7 (.mv (.k 20)),
 .o 6 (.mv (.k 21))] false [2,6,7] [2])
 (.seq (.seq (.reg [] [.o 22 (.mv (.t 6)),
 .o 23 (.bin .neq (.k 22) (.c (.i .i64 0)))] false [2,6,7,23] [2])
 (.cond 23 (.seq (.reg [] [.o 24 (.mv (.k 6)),
 .o 4 (.mv (.c (.nilp))),
 .o 5 (.mv (.k 24))] false [4,5] [])
 .ret)
 .skip))
 (.seq (.reg [] [.o 25 (.fa 0 (.t 2)),
 .o 26 (.ld false 1 .cp (.k 25)),
 .o 27 (.fa 1 (.k 2)),
 .o 28 (.ld false 1 .cp (.k 27)),
 .o 29 (.mv (.k 7)),
 .o 30 (.call n_engine_With [.k 26,.k 28,.k 29]),
 .o 31 (.ex false 0 30),
 .o 32 (.ex false 1 30),
 .o 4 (.mv (.k 31)),
 .o 5 (.mv (.k 32))] false [4,5] [])
 .ret))))))⟩

def F_engine_Engine_Value : F := ⟨1,[.inr (2,true,3)],
 (.seq (.reg [] [.o 2 (.al ([.i .i64 0,.l .o 2 [],.i .i64 0]))] false [0,2] [2])
 (.seq (.reg [] [.o 6 (.mv (.t 0)),
 .o 7 (.nc (.k 6)),
 .o 8 (.fa 0 (.k 7)),
 .o 9 (.ld false 1 .cp (.k 8)),
 .u 10 (.mv (.t 0)) [0,1,2,3] 0,
 .u 11 (.nc (.k 10)) [0,1,2,3] 0,
 .u 12 (.fa 1 (.k 11)) [0,1,2,3] 0,
 .u 13 (.ld false 1 .cp (.k 12)) [0,1,2,3] 0,
 .u 14 (.mv (.t 0)) [0,1,2,3,4,5,6,7] 0,
 .u 15 (.nc (.k 14)) [0,1,2,3,4,5,6,7] 0,
 .u 16 (.fa 2 (.k 15)) [0,1,2,3,4,5,6,7] 0,
 .u 17 (.ld false 1 .cp (.k 16)) [0,1,2,3,4,5,6,7] 0,
 .o 18 (.call n_value_Of [.k 9,.k 13,.k 17]),
 .o 5 (.mv (.k 18)),
 .o 19 (.ex false 0 5),
 .u 20 (.ex false 1 5) [14] 0,
 .u 3 (.al ([.i .i64 0,.l .o 2 [],.i .i64 0])) [0,1,2,3,4,5,6,7,8,9,10,11,12,13,14,15] 0,
 ⟨none,none,.st 3 (.t 3) (.k 19),[15],0⟩,
 .o 4 (.mv (.k 20))] true [2,3] [2,3])
 (.seq (.reg [] [.o 21 (.ld true 3 .tk (.k 3)),
 .s (.st 3 (.t 2) (.k 21))] false [2] [2])
 .ret)))⟩

def F_engine_Engine_Param : F := ⟨1,[.inl 2],
 (.seq (.reg [] [.o 2 (.mv (.c (.i .i64 0)))] false [0] [])
 (.seq (.reg [] [.o 3 (.mv (.k 0)),
 .o 4 (.nc (.k 3)),
 .o 5 (.fa 1 (.k 4)),
 .o 6 (.ld false 1 .cp (.k 5)),
 .o 2 (.mv (.k 6))] false [2] [])
 .ret))⟩

def F_engine_Engine_Kind : F := ⟨1,[.inl 2],
 (.seq (.reg [] [.o 2 (.mv (.c (.i .i64 0)))] false [0] [])
 (.seq (.reg [] [.o 3 (.mv (.k 0)),
 .o 4 (.nc (.k 3)),
 .o 5 (.fa 0 (.k 4)),
 .o 6 (.ld false 1 .cp (.k 5)),
 .o 2 (.mv (.k 6))] false [2] [])
 .ret))⟩

def F_engine_Engine_Busy : F := ⟨1,[.inl 2],
 (.seq (.reg [] [.o 2 (.mv (.c (.l .o 1 [])))] false [0] [])
 (.seq (.reg [] [.o 3 (.mv (.c (.l .o 1 [])))] false [0,3] [])
 (.seq (.seq (.reg [] [.o 6 (.mv (.k 0)),
 .o 7 (.nc (.k 6)),
 .o 8 (.fa 4 (.k 7)),
 .o 9 (.ld true 6 .cp (.k 8)),
 .o 10 (.mv (.c (.i .i64 0)))] false [3,9,10] [])
 (.blk 0 (.loop (.seq (.reg [] [.o 11 (.bin .lss (.t 10) (.c (.i .i64 6)))] false [3,9,10,11] [])
 (.seq (.cond 11 .skip
 (.exit 0))
 (.seq (.blk 1 (.seq (.reg [] [.o 12 (.mv (.t 10)),
 .o 13 (.ixa false 1 6 (.t 9) (.t 10)),
 .o 4 (.mv (.k 12)),
 .o 5 (.mv (.k 13))] false [3,4,5,9,10] [])
 (.seq (.reg [] [.o 14 (.mv (.k 5)),
 .o 15 (.eq true .pt (.k 14) (.c (.nilp)))] false [3,4,9,10,15] [])
 (.cond 15 (.reg [] [.o 16 (.mv (.k 3)),
 .o 17 (.mv (.k 4)),
 .o 18 (.bs 1 1 (.i .i64 0) [(0,.k 17)]),
 .z 19 (.app 1 8 (.k 16) (.k 18)) 1,
 .o 3 (.mv (.k 19))] false [3,9,10] [])
 .skip))))
 (.reg [] [.o 20 (.bin .add (.k 10) (.c (.i .i64 1))),
 .o 10 (.mv (.k 20))] false [3,9,10] [])))))))
 (.seq (.reg [] [.o 21 (.mv (.k 3)),
 .o 2 (.mv (.k 21))] false [2] [])
 .ret))))⟩

def F_cell_Memory_Force : F := ⟨3,[.inl 6],
 (.seq (.reg [.zz 2] [.o 5 (.bx (.k 2)),
 .o 6 (.mv (.c (.b false)))] false [0,1,5] [5])
 (.seq (.reg [] [.o 7 (.mv (.t 0)),
 .u 8 (.mv (.t 1)) [0] 0,
 .u 9 (.mv (.t 0)) [0,1] 0,
 .u 10 (.mv (.t 1)) [0,1,2] 0,
 .u 11 (.call n_cell_Memory_Read [.k 9,.k 10]) [0,1] 0,
 .u 12 (.fd false 0 1 (.k 11)) [0,1] 0,
 .u 13 (.ld true 2 .cp (.k 5)) [0,1,2,3,4,5] 2,
 .o 14 (.call n_cell_Memory_Write [.k 7,.k 8,.k 12,.k 13]),
 .o 6 (.mv (.k 14))] true [6] [])
 .ret))⟩

def F_engine_With : F := ⟨3,[.inl 6,.inl 7],
 (.seq (.reg [] [.o 6 (.mv (.c (.nilp))),
 .o 7 (.mv (.c (.i .i64 0)))] false [0,1,2] [])
 (.seq (.reg [] [.o 11 (.mv (.t 0)),
 .o 12 (.mv (.t 1)),
 .o 13 (.call n_engine_machine [.k 11,.k 12]),
 .o 10 (.mv (.k 13)),
 .o 14 (.ex false 0 10),
 .o 15 (.ex false 1 10),
 .o 8 (.mv (.k 14)),
 .o 9 (.mv (.k 15))] false [0,1,2,8,9] [])
 (.seq (.seq (.reg [] [.o 16 (.mv (.t 9)),
 .o 17 (.bin .neq (.k 16) (.c (.i .i64 0)))] false [0,1,2,8,9,17] [])
 (.cond 17 (.seq (.reg [] [.o 18 (.mv (.k 9)),
 .o 6 (.mv (.c (.nilp))),
 .o 7 (.mv (.k 18))] false [6,7] [])
 .ret)
 .skip))
 (.seq (.reg [] [.o 19 (.mv (.k 0)),
 .o 20 (.mv (.k 1)),
 .o 21 (.mv (.k 2)),
 .o 22 (.mv (.k 8)),
 .o 23 (.bd ([.i .i64 0,.i .i64 0,.nilp,.nili,.nilp,.nilp,.nilp,.nilp,.nilp,.nilp,.b false,.i .i64 0]) [(0,1,.k 19),(1,1,.k 20),(2,1,.k 21),(3,1,.k 22)]),
 .o 24 (.bg (.k 23)),
 .o 6 (.mv (.k 24)),
 .o 7 (.mv (.c (.i .i64 0)))] false [6,7] [])
 .ret))))⟩

def F_cell_Memory_Read : F := ⟨2,[.inr (4,true,3)],
 (.seq (.reg [] [.o 4 (.al ([.i .u64 0,.i .i64 0,.l .o 2 []]))] false [0,1,4] [4])
 (.seq (.seq (.reg [] [.o 6 (.mv (.t 1)),
 .o 7 (.bin .lss (.k 6) (.c (.i .i64 0))),
 .o 8 (.mv (.k 7)),
 .c 8 false 9 (.mv (.t 1)),
 .c 8 false 10 (.mv (.t 0)),
 .c 8 false 11 (.nc (.k 10)),
 .c 8 false 12 (.fa 0 (.k 11)),
 ⟨some 13,some (8,false),.lda 1 (.k 12),[],1⟩,
 .c 8 false 14 (.len false (.k 13)),
 .c 8 false 15 (.bin .geq (.k 9) (.k 14)),
 .o 16 (.pick (.k 8) (.c (.b true)) (.k 15))] false [0,1,4,16] [4])
 (.cond 16 (.seq (.reg [] [.o 17 (.bd ([.i .u64 0,.i .i64 0,.l .o 2 []]) []),
 .s (.st 3 (.t 4) (.k 17))] false [4] [4])
 .ret)
 .skip))
 (.seq (.reg [] [.o 18 (.mv (.k 0)),
 .o 19 (.nc (.k 18)),
 .o 20 (.fa 0 (.k 19)),
 .z 21 (.lda 1 (.k 20)) 1,
 .o 22 (.mv (.k 1)),
 .o 23 (.ia 3 none (.k 21) (.k 22)),
 .o 24 (.ld true 3 .cp (.k 23)),
 .o 5 (.al ([.i .u64 0,.i .i64 0,.l .o 2 []])),
 .s (.st 3 (.t 5) (.k 24))] false [4,5] [4,5])
 (.seq (.reg [] [.o 25 (.fa 0 (.t 5)),
 .o 26 (.ld false 1 .cp (.k 25)),
 .u 27 (.fa 1 (.t 5)) [0,1] 0,
 .u 28 (.ld true 2 .cp (.k 27)) [0,1] 2,
 .u 29 (.call n_cell_Value_Clone [.k 28]) [0,1] 0,
 .o 30 (.bd ([.i .u64 0,.i .i64 0,.l .o 2 []]) [(0,1,.k 26),(1,2,.k 29)]),
 .s (.st 3 (.t 4) (.k 30))] true [4] [4])
 .ret))))⟩

def F_c_law03_F : F := ⟨1,[.inl 2],
 (.seq (.reg [] [.o 2 (.mv (.c (.f .f64 0)))] false [0] [])
 (.seq (.reg [] [.o 3 (.mv (.k 0)),
 .o 4 (.frbits (.k 3)),
 .o 2 (.mv (.k 4))] false [2] [])
 .ret))⟩

def F_real_Canon : F := ⟨1,[.inl 2],
 (.seq (.reg [] [.o 2 (.mv (.c (.f .f64 0)))] false [0] [])
 (.seq (.seq (.reg [] [.o 3 (.mv (.t 0)),
 .o 4 (.mv (.t 0)),
 .o 5 (.bin .neq (.k 3) (.k 4))] false [0,5] [])
 (.cond 5 (.seq (.reg [] [.o 6 (.frbits (.c (.i .u64 9221120237041090560))),
 .o 2 (.mv (.k 6))] false [2] [])
 .ret)
 .skip))
 (.seq (.reg [] [.o 7 (.mv (.k 0)),
 .o 2 (.mv (.k 7))] false [2] [])
 .ret)))⟩

def F_pile_New : F := ⟨1,[.inl 2],
 (.seq (.reg [.zz 0] [.o 2 (.mv (.c (.nilp)))] false [0] [])
 (.seq (.reg [] [.o 6 (.bd ([.l .x 2 []]) []),
 .o 7 (.bg (.k 6)),
 .o 3 (.mv (.k 7))] false [0,3] [])
 (.seq (.seq (.reg [] [.o 8 (.mv (.k 0)),
 .o 9 (.len false (.t 8)),
 .o 10 (.mv (.c (.i .i64 0)))] false [3,8,9,10] [])
 (.blk 0 (.loop (.seq (.reg [] [.o 11 (.bin .lss (.t 10) (.t 9))] false [3,8,9,10,11] [])
 (.seq (.cond 11 .skip
 (.exit 0))
 (.seq (.blk 1 (.seq (.reg [] [.o 12 (.ia 2 none (.t 8) (.t 10)),
 .o 13 (.ld true 2 .cp (.k 12)),
 .o 5 (.al ([.f .f64 0,.i .i64 0])),
 .s (.st 2 (.t 5) (.k 13))] false [3,5,8,9,10] [5])
 (.reg [] [.o 14 (.mv (.t 3)),
 .u 15 (.mv (.t 3)) [0] 0,
 .u 16 (.nc (.k 15)) [0] 0,
 .u 17 (.fa 0 (.k 16)) [0] 0,
 .u 18 (.ld false 1 .tk (.k 17)) [0] 0,
 .u 19 (.ld true 2 .cp (.k 5)) [0,1,2,3,4] 0,
 .u 20 (.callp n_pile_Item_Canon [.k 19]) [0,1,2,3,4] 0,
 .u 21 (.bs 2 1 (.a ([.f .f64 0,.i .i64 0])) [(0,.k 20)]) [0,1,2,3,4] 0,
 .u 22 (.app 2 16 (.k 18) (.k 21)) [0] 0,
 .o 23 (.nc (.k 14)),
 .o 24 (.fa 0 (.k 23)),
 .s (.st 1 (.k 24) (.k 22))] true [3,8,9,10] [])))
 (.reg [] [.o 25 (.bin .add (.k 10) (.c (.i .i64 1))),
 .o 10 (.mv (.k 25))] false [3,8,9,10] [])))))))
 (.seq (.reg [] [.o 26 (.mv (.t 3)),
 .o 27 (.nc (.k 26)),
 .o 28 (.fa 0 (.k 27)),
 .o 29 (.mi t_pile_items_u (.k 28)),
 .o 30 (.call n_container_heap_Init [.k 29])] false [3] [])
 (.seq (.reg [] [.o 31 (.mv (.k 3)),
 .o 2 (.mv (.k 31))] false [2] [])
 .ret)))))⟩

def F_pile_Pile_All : F := ⟨1,[.inl 2],
 (.seq (.reg [] [.o 2 (.mv (.c (.l .o 2 [])))] false [0] [])
 (.seq (.reg [] [.o 7 (.bs 2 0 (.a ([.f .f64 0,.i .i64 0])) []),
 .o 8 (.mv (.k 0)),
 .o 9 (.nc (.k 8)),
 .o 10 (.fa 0 (.k 9)),
 .z 11 (.lda 1 (.k 10)) 1,
 .o 12 (.app 2 16 (.k 7) (.k 11)),
 .o 13 (.bd ([.l .x 2 []]) [(0,1,.k 12)]),
 .o 14 (.bg (.k 13)),
 .o 3 (.mv (.k 14))] false [3] [])
 (.seq (.reg [] [.o 4 (.mv (.c (.l .o 2 [])))] false [3,4] [])
 (.blk 0 (.loop (.blk 1 (.seq (.reg [] [.o 16 (.mv (.t 3)),
 .o 17 (.call n_pile_Pile_Take [.k 16]),
 .o 15 (.mv (.k 17)),
 .o 18 (.ex false 0 15),
 .o 19 (.ex false 1 15),
 .o 5 (.al ([.f .f64 0,.i .i64 0])),
 .s (.st 2 (.t 5) (.k 18)),
 .o 6 (.mv (.k 19))] false [3,4,5,6] [5])
 (.seq (.seq (.reg [] [.o 20 (.mv (.k 6)),
 .o 21 (.un .not (.k 20))] false [3,4,5,21] [5])
 (.cond 21 (.seq (.reg [] [.o 22 (.mv (.k 4)),
 .o 2 (.mv (.k 22))] false [2] [])
 .ret)
 .skip))
 (.reg [] [.o 23 (.mv (.k 4)),
 .o 24 (.ld true 2 .cp (.k 5)),
 .o 25 (.bs 2 1 (.a ([.f .f64 0,.i .i64 0])) [(0,.k 24)]),
 .z 26 (.app 2 16 (.k 23) (.k 25)) 1,
 .o 4 (.mv (.k 26))] false [3,4] [])))))))))⟩

def F_op_Legal : F := ⟨2,[.inl 4],
 (.seq (.reg [] [.o 4 (.mv (.c (.i .i64 0)))] false [0,1] [])
 (.seq (.blk 0 (.seq (.reg [] [.o 6 (.mv (.t 0)),
 .o 7 (.bin .lss (.k 6) (.c (.i .i64 1))),
 .o 8 (.mv (.k 7)),
 .c 8 false 9 (.mv (.t 0)),
 .c 8 false 10 (.bin .gtr (.k 9) (.c (.i .i64 4))),
 .o 11 (.pick (.k 8) (.c (.b true)) (.k 10)),
 .o 5 (.mv (.k 11))] false [0,1,5] [])
 (.cond 5 (.seq (.reg [] [.o 4 (.mv (.c (.i .i64 6)))] false [4] [])
 .ret)
 (.seq (.reg [] [.o 13 (.mv (.t 1)),
 .o 14 (.bin .lss (.k 13) (.c (.i .i64 1))),
 .o 15 (.mv (.k 14)),
 .c 15 false 16 (.mv (.t 1)),
 .c 15 false 17 (.bin .gtr (.k 16) (.c (.i .i64 16))),
 .o 18 (.pick (.k 15) (.c (.b true)) (.k 17)),
 .o 19 (.mv (.k 18)),
 .c 19 false 20 (.mv (.k 0)),
 .c 19 false 21 (.bin .eql (.k 20) (.c (.i .i64 4))),
 .c 19 false 22 (.mv (.k 21)),
 .c 22 true 23 (.mv (.t 1)),
 .c 22 true 24 (.mv (.k 1)),
 .c 22 true 25 (.bin .sub (.k 24) (.c (.i .i64 1))),
 .c 22 true 26 (.bin .and (.k 23) (.k 25)),
 .c 22 true 27 (.bin .neq (.k 26) (.c (.i .i64 0))),
 .c 19 false 28 (.pick (.k 22) (.k 27) (.c (.b false))),
 .o 29 (.pick (.k 19) (.c (.b true)) (.k 28)),
 .o 12 (.mv (.k 29))] false [12] [])
 (.cond 12 (.seq (.reg [] [.o 4 (.mv (.c (.i .i64 5)))] false [4] [])
 .ret)
 .skip)))))
 (.seq (.reg [] [.o 4 (.mv (.c (.i .i64 0)))] false [4] [])
 .ret)))⟩

def F_value_bag : F := ⟨2,[.inl 4],
 (.seq (.reg [] [.o 4 (.mv (.c (.l .o 2 [])))] false [0,1] [])
 (.seq (.reg [] [.o 5 (.mv (.c (.l .o 2 [])))] false [0,1,5] [])
 (.seq (.seq (.reg [] [.o 7 (.mv (.k 0)),
 .o 8 (.mv (.c (.i .i64 0)))] false [1,5,7,8] [])
 (.blk 0 (.loop (.seq (.reg [] [.o 9 (.bin .lss (.t 8) (.t 7))] false [1,5,7,8,9] [])
 (.seq (.cond 9 .skip
 (.exit 0))
 (.seq (.blk 1 (.seq (.reg [] [.o 10 (.mv (.t 8)),
 .o 6 (.mv (.k 10))] false [1,5,6,7,8] [])
 (.reg [] [.o 11 (.mv (.k 5)),
 .o 12 (.mv (.t 1)),
 .o 13 (.mv (.k 6)),
 .o 14 (.call n_cell_Memory_Read [.k 12,.k 13]),
 .o 15 (.fd true 1 2 (.k 14)),
 .o 16 (.fd false 1 1 (.k 15)),
 .z 17 (.app 2 16 (.k 11) (.k 16)) 1,
 .o 5 (.mv (.k 17))] false [1,5,7,8] [])))
 (.reg [] [.o 18 (.bin .add (.k 8) (.c (.i .i64 1))),
 .o 8 (.mv (.k 18))] false [1,5,7,8] [])))))))
 (.seq (.reg [] [.z 19 (.mv (.k 5)) 2,
 .o 20 (.call n_pile_Sorted [.k 19]),
 .o 4 (.mv (.k 20))] false [4] [])
 .ret))))⟩

def F_value_line : F := ⟨1,[.inl 2],
 (.seq (.reg [] [.o 2 (.mv (.c (.l .o 2 [])))] false [0] [])
 (.seq (.reg [] [.o 3 (.mv (.c (.l .x 3 [])))] false [0,3] [3])
 (.seq (.seq (.reg [] [.o 4 (.mv (.c (.i .i64 2)))] false [0,3,4] [3])
 (.blk 0 (.loop (.seq (.seq (.reg [] [.o 9 (.mv (.t 4)),
 .o 10 (.mv (.t 0)),
 .o 11 (.call n_cell_Memory_Len [.k 10]),
 .o 12 (.bin .lss (.k 9) (.k 11))] false [0,3,4,12] [3])
 (.cond 12 .skip
 (.exit 0)))
 (.seq (.blk 1 (.seq (.reg [] [.o 15 (.mv (.t 0)),
 .o 16 (.mv (.t 4)),
 .o 17 (.call n_cell_Memory_Read [.k 15,.k 16]),
 .o 5 (.al ([.i .u64 0,.i .i64 0,.l .o 2 []])),
 .s (.st 3 (.t 5) (.k 17))] false [0,3,4,5] [3,5])
 (.seq (.reg [] [.o 18 (.fa 1 (.t 5)),
 .o 19 (.fa 0 (.k 18)),
 .o 20 (.ld false 1 .cp (.k 19)),
 .o 21 (.bin .eql (.k 20) (.c (.i .i64 1)))] false [0,3,4,5,21] [3,5])
 (.cond 21 (.reg [.unth 3] [.o 22 (.mv (.k 3)),
 .o 23 (.ld true 3 .tk (.k 5)),
 .o 24 (.bs 3 1 (.a ([.i .u64 0,.i .i64 0,.l .o 2 []])) [(0,.k 23)]),
 .o 25 (.app 3 40 (.k 22) (.k 24)),
 .o 3 (.mv (.k 25))] false [0,3,4] [3])
 .skip))))
 (.reg [] [.o 13 (.mv (.k 4)),
 .o 14 (.bin .add (.k 13) (.c (.i .i64 1))),
 .o 4 (.mv (.k 14))] false [0,3,4] [3]))))))
 (.seq (.reg [.thaw 3] [.z 26 (.mv (.t 3)) 2,
 .o 27 (.srt n_slices_SortFunc_cell_Cell_cell_Cell n_value_line_1 (.k 26))] false [3] [3])
 (.seq (.reg [] [.o 6 (.mv (.c (.l .o 2 [])))] false [3,6] [3])
 (.seq (.seq (.reg [.unth 3] [.z 28 (.mv (.k 3)) 1,
 .o 29 (.len false (.t 28)),
 .o 30 (.mv (.c (.i .i64 0)))] false [6,28,29,30] [])
 (.blk 2 (.loop (.seq (.reg [] [.o 31 (.bin .lss (.t 30) (.t 29))] false [6,28,29,30,31] [])
 (.seq (.cond 31 .skip
 (.exit 2))
 (.seq (.blk 3 (.seq (.reg [] [.o 32 (.ia 3 none (.t 28) (.t 30)),
 .o 33 (.ld true 3 .cp (.k 32)),
 .o 8 (.al ([.i .u64 0,.i .i64 0,.l .o 2 []])),
 .s (.st 3 (.t 8) (.k 33))] false [6,8,28,29,30] [8])
 (.reg [] [.o 34 (.mv (.k 6)),
 .o 35 (.fa 1 (.k 8)),
 .o 36 (.fa 1 (.k 35)),
 .o 37 (.ld false 1 .tk (.k 36)),
 .z 38 (.app 2 16 (.k 34) (.k 37)) 1,
 .o 6 (.mv (.k 38))] false [6,28,29,30] [])))
 (.reg [] [.o 39 (.bin .add (.k 30) (.c (.i .i64 1))),
 .o 30 (.mv (.k 39))] false [6,28,29,30] [])))))))
 (.seq (.reg [] [.o 40 (.mv (.k 6)),
 .o 2 (.mv (.k 40))] false [2] [])
 .ret)))))))⟩

def F_value_sum : F := ⟨3,[.inl 6],
 (.seq (.reg [] [.o 6 (.mv (.c (.i .i64 0)))] false [0,1,2] [])
 (.seq (.reg [] [.o 7 (.mv (.c (.i .i64 0)))] false [0,1,2,7] [])
 (.seq (.seq (.reg [] [.o 9 (.mv (.k 1)),
 .o 10 (.mv (.c (.i .i64 0)))] false [0,2,7,9,10] [])
 (.blk 0 (.loop (.seq (.reg [] [.o 11 (.bin .lss (.t 10) (.t 9))] false [0,2,7,9,10,11] [])
 (.seq (.cond 11 .skip
 (.exit 0))
 (.seq (.blk 1 (.seq (.reg [] [.o 12 (.mv (.t 10)),
 .o 8 (.mv (.k 12))] false [0,2,7,8,9,10] [])
 (.reg [] [.o 13 (.mv (.k 7)),
 .o 14 (.mv (.t 2)),
 .o 15 (.mv (.t 0)),
 .o 16 (.mv (.k 8)),
 .o 17 (.bin .add (.k 15) (.k 16)),
 .o 18 (.call n_cell_Memory_Read [.k 14,.k 17]),
 .o 19 (.fd true 1 2 (.k 18)),
 .o 20 (.fd false 0 1 (.k 19)),
 .o 21 (.bin .add (.k 13) (.k 20)),
 .o 7 (.mv (.k 21))] false [0,2,7,9,10] [])))
 (.reg [] [.o 22 (.bin .add (.k 10) (.c (.i .i64 1))),
 .o 10 (.mv (.k 22))] false [0,2,7,9,10] [])))))))
 (.seq (.reg [] [.o 23 (.mv (.k 7)),
 .o 6 (.mv (.k 23))] false [6] [])
 .ret))))⟩

def F_net_New : F := ⟨1,[.inr (2,true,3),.inl 3],
 (.seq (.reg [] [.o 2 (.al ([.i .i64 0,.l .o 2 [],.l .o 1 []])),
 .o 3 (.mv (.c (.i .i64 0)))] false [0,2] [2])
 (.seq (.reg [] [.o 7 (.mv (.k 0)),
 .o 8 (.call n_wire_Make [.k 7]),
 .o 6 (.mv (.k 8)),
 .o 9 (.ex false 0 6),
 .o 10 (.ex false 1 6),
 .o 4 (.al ([.i .i64 0,.l .o 2 [],.l .o 1 []])),
 .s (.st 3 (.t 4) (.k 9)),
 .o 5 (.mv (.k 10))] false [2,4,5] [2,4])
 (.seq (.reg [] [.o 11 (.ld true 3 .tk (.k 4)),
 .o 12 (.bd ([.i .i64 0,.l .o 2 [],.l .o 1 []]) [(0,3,.k 11)]),
 .o 13 (.mv (.k 5)),
 .s (.st 3 (.t 2) (.k 12)),
 .o 3 (.mv (.k 13))] false [2,3] [2])
 .ret)))⟩

def F_net_Net_Out : F := ⟨2,[.inl 4],
 (.seq (.reg [.zz 0] [.o 2 (.bx (.k 0)),
 .o 4 (.mv (.c (.i .i64 0)))] false [1,2] [2])
 (.seq (.reg [] [.o 5 (.fa 0 (.k 2)),
 .o 6 (.fa 1 (.k 5)),
 .o 7 (.ld false 1 .tk (.k 6)),
 .o 8 (.len false (.k 7)),
 .o 9 (.mv (.k 1)),
 .o 10 (.bin .add (.k 8) (.k 9)),
 .o 4 (.mv (.k 10))] false [4] [])
 .ret))⟩

def F_slices_EqualFunc_pile_Item_pile_Item_pile_Item_pile_Item_1 : F := ⟨3,[.inl 6],
 (.seq (.reg [.zz 0,.zz 1] [.o 6 (.mv (.c (.b false)))] false [0,1,2] [])
 (.seq (.seq (.reg [] [.o 10 (.mv (.t 0)),
 .o 11 (.len false (.k 10)),
 .o 12 (.mv (.t 1)),
 .o 13 (.len false (.k 12)),
 .o 14 (.bin .neq (.k 11) (.k 13))] false [0,1,2,14] [])
 (.cond 14 (.seq (.reg [] [.o 6 (.mv (.c (.b false)))] false [6] [])
 .ret)
 .skip))
 (.seq (.seq (.reg [] [.o 15 (.mv (.k 0)),
 .o 16 (.len false (.t 15)),
 .o 17 (.mv (.c (.i .i64 0)))] false [1,2,15,16,17] [])
 (.blk 0 (.loop (.seq (.reg [] [.o 18 (.bin .lss (.t 17) (.t 16))] false [1,2,15,16,17,18] [])
 (.seq (.cond 18 .skip
 (.exit 0))
 (.seq (.blk 1 (.seq (.reg [] [.o 19 (.mv (.t 17)),
 .o 20 (.ia 2 none (.t 15) (.t 17)),
 .o 21 (.ld true 2 .cp (.k 20)),
 .o 8 (.al ([.f .f64 0,.i .i64 0])),
 .o 7 (.mv (.k 19)),
 .s (.st 2 (.t 8) (.k 21))] false [1,2,7,8,15,16,17] [8])
 (.seq (.reg [] [.o 22 (.mv (.t 1)),
 .o 23 (.mv (.k 7)),
 .o 24 (.ia 2 none (.k 22) (.k 23)),
 .o 25 (.ld true 2 .cp (.k 24)),
 .o 9 (.al ([.f .f64 0,.i .i64 0])),
 .s (.st 2 (.t 9) (.k 25))] false [1,2,8,9,15,16,17] [8,9])
 (.seq (.reg [] [.o 26 (.mv (.t 2)),
 .o 27 (.ld true 2 .cp (.k 8)),
 .o 28 (.ld true 2 .cp (.k 9)),
 .o 29 (.callv (.k 26) [.k 27,.k 28]),
 .o 30 (.un .not (.k 29))] false [1,2,15,16,17,30] [])
 (.cond 30 (.seq (.reg [] [.o 6 (.mv (.c (.b false)))] false [6] [])
 .ret)
 .skip)))))
 (.reg [] [.o 31 (.bin .add (.k 17) (.c (.i .i64 1))),
 .o 17 (.mv (.k 31))] false [1,2,15,16,17] [])))))))
 (.seq (.reg [] [.o 6 (.mv (.c (.b true)))] false [6] [])
 .ret))))⟩

def F_value_Value_Same_1 : F := ⟨2,[.inl 4],
 (.seq (.reg [] [.o 2 (.bx (.k 0)),
 .o 3 (.bx (.k 1)),
 .o 4 (.mv (.c (.b false)))] false [2,3] [2,3])
 (.seq (.reg [] [.o 5 (.ld true 2 .cp (.k 2)),
 .o 6 (.ld true 2 .cp (.k 3)),
 .o 7 (.call n_pile_Item_Cmp [.k 5,.k 6]),
 .o 8 (.bin .eql (.k 7) (.c (.i .i64 0))),
 .o 4 (.mv (.k 8))] false [4] [])
 .ret))⟩

def F_pile_Item_Cmp : F := ⟨2,[.inl 4],
 (.seq (.reg [] [.o 2 (.bx (.k 0)),
 .o 3 (.bx (.k 1)),
 .o 4 (.mv (.c (.i .i64 0)))] false [2,3] [2,3])
 (.seq (.seq (.reg [] [.o 6 (.fa 0 (.t 2)),
 .o 7 (.ld false 1 .cp (.k 6)),
 .o 8 (.fa 0 (.t 3)),
 .o 9 (.ld false 1 .cp (.k 8)),
 .o 10 (.call n_real_Cmp [.k 7,.k 9]),
 .o 5 (.mv (.k 10))] false [2,3,5] [2,3])
 (.seq (.reg [] [.o 11 (.mv (.t 5)),
 .o 12 (.bin .neq (.k 11) (.c (.i .i64 0)))] false [2,3,5,12] [2,3])
 (.cond 12 (.seq (.reg [] [.o 13 (.mv (.k 5)),
 .o 4 (.mv (.k 13))] false [4] [])
 .ret)
 .skip)))
 (.seq (.blk 0 (.seq (.reg [] [.o 15 (.fa 1 (.t 2)),
 .o 16 (.ld false 1 .cp (.k 15)),
 .o 17 (.fa 1 (.t 3)),
 .o 18 (.ld false 1 .cp (.k 17)),
 .o 19 (.bin .lss (.k 16) (.k 18)),
 .o 14 (.mv (.k 19))] false [2,3,14] [2,3])
 (.cond 14 (.seq (.reg [] [.o 4 (.mv (.c (.i .i64 (-1))))] false [4] [])
 .ret)
 (.seq (.reg [] [.o 21 (.fa 1 (.k 2)),
 .o 22 (.ld false 1 .cp (.k 21)),
 .o 23 (.fa 1 (.k 3)),
 .o 24 (.ld false 1 .cp (.k 23)),
 .o 25 (.bin .gtr (.k 22) (.k 24)),
 .o 20 (.mv (.k 25))] false [20] [])
 (.cond 20 (.seq (.reg [] [.o 4 (.mv (.c (.i .i64 1)))] false [4] [])
 .ret)
 .skip)))))
 (.seq (.reg [] [.o 4 (.mv (.c (.i .i64 0)))] false [4] [])
 .ret))))⟩

def F_spread_Lay : F := ⟨1,[.inl 2,.inl 3],
 (.seq (.reg [.zz 0] [.o 1 (.bx (.k 0)),
 .o 2 (.mv (.c (.nilp))),
 .o 3 (.mv (.c (.i .i64 0)))] false [1] [1])
 (.seq (.reg [] [.z 10 (.ld true 5 .cp (.t 1)) 2,
 .o 11 (.call n_image_Image_Check [.k 10]),
 .o 4 (.mv (.k 11))] false [1,4] [1])
 (.seq (.seq (.reg [] [.o 12 (.mv (.t 4)),
 .o 13 (.bin .eql (.k 12) (.c (.i .i64 0))),
 .o 14 (.mv (.k 13)),
 .c 14 true 15 (.fa 0 (.t 1)),
 .c 14 true 16 (.ld false 1 .cp (.k 15)),
 .c 14 true 17 (.bin .eql (.k 16) (.c (.i .i64 2))),
 .o 18 (.pick (.t 14) (.k 17) (.c (.b false))),
 .o 19 (.mv (.k 18)),
 .c 19 true 20 (.fa 3 (.t 1)),
 .c 19 true 21 (.ld false 1 .cp (.k 20)),
 .c 19 true 22 (.ia 1 none (.k 21) (.c (.i .i64 0))),
 .c 19 true 23 (.ld false 1 .cp (.k 22)),
 .c 19 true 24 (.len false (.k 23)),
 ⟨some 25,some (19,true),.fa 1 (.t 1),[8,9,10,11,12],0⟩,
 ⟨some 26,some (19,true),.ld false 1 .cp (.k 25),[8,9,10,11,12],0⟩,
 ⟨some 27,some (19,true),.call n_image_Room [.k 26],[8,9,10,11,12],0⟩,
 .c 19 true 28 (.bin .gtr (.k 24) (.k 27)),
 .o 29 (.pick (.t 19) (.k 28) (.c (.b false)))] true [1,4,29] [1])
 (.cond 29 (.reg [] [.o 4 (.mv (.c (.i .i64 3)))] false [1,4] [1])
 .skip))
 (.seq (.seq (.reg [] [.o 30 (.mv (.t 4)),
 .o 31 (.bin .neq (.k 30) (.c (.i .i64 0)))] false [1,4,31] [1])
 (.cond 31 (.seq (.reg [] [.o 32 (.mv (.k 4)),
 .o 2 (.mv (.c (.nilp))),
 .o 3 (.mv (.k 32))] false [2,3] [])
 .ret)
 .skip))
 (.seq (.reg [] [.o 33 (.call n_cell_New []),
 .o 5 (.mv (.k 33))] false [1,5] [1])
 (.seq (.seq (.reg [] [.o 34 (.fa 0 (.t 1)),
 .o 35 (.ld false 1 .cp (.k 34))] false [1,5,35] [1])
 (.blk 0 (.seq (.reg [] [.o 37 (.bin .eql (.t 35) (.c (.i .i64 1))),
 .o 36 (.mv (.k 37))] false [1,5,35,36] [1])
 (.cond 36 (.seq (.reg [] [.o 38 (.fa 3 (.k 1)),
 .o 39 (.ld false 1 .tk (.k 38)),
 .o 40 (.len false (.t 39)),
 .o 41 (.mv (.c (.i .i64 0)))] false [5,39,40,41] [])
 (.blk 1 (.loop (.seq (.reg [] [.o 42 (.bin .lss (.t 41) (.t 40))] false [5,39,40,41,42] [])
 (.seq (.cond 42 .skip
 (.exit 1))
 (.seq (.blk 2 (.seq (.reg [] [.o 43 (.mv (.t 41)),
 .o 44 (.ia 1 none (.t 39) (.t 41)),
 .o 45 (.ld false 1 .cp (.k 44)),
 .o 6 (.mv (.k 43)),
 .o 7 (.mv (.k 45))] false [5,6,7,39,40,41] [])
 (.reg [] [.o 46 (.mv (.t 5)),
 .o 47 (.mv (.k 6)),
 .z 48 (.mv (.k 7)) 2,
 .o 49 (.call n_pile_Sorted [.k 48]),
 .z 50 (.bd ([.i .i64 0,.l .o 2 []]) [(1,1,.k 49)]) 2,
 .o 51 (.call n_cell_Memory_Force [.k 46,.k 47,.k 50])] false [5,39,40,41] [])))
 (.reg [] [.o 52 (.bin .add (.k 41) (.c (.i .i64 1))),
 .o 41 (.mv (.k 52))] false [5,39,40,41] [])))))))
 (.seq (.reg [] [.o 54 (.bin .eql (.t 35) (.c (.i .i64 2))),
 .o 53 (.mv (.k 54))] false [1,5,35,53] [1])
 (.cond 53 (.reg [] [.o 55 (.mv (.t 5)),
 .z 56 (.ld true 5 .tk (.k 1)) 2,
 .o 57 (.call n_spread_fifo [.k 55,.k 56])] false [5] [])
 (.seq (.reg [] [.o 59 (.bin .eql (.t 35) (.c (.i .i64 3))),
 .o 58 (.mv (.k 59))] false [1,5,35,58] [1])
 (.cond 58 (.seq (.reg [] [.o 60 (.fa 4 (.k 1)),
 .o 61 (.ld false 1 .tk (.k 60)),
 .o 62 (.len false (.t 61)),
 .o 63 (.mv (.c (.i .i64 0)))] false [5,61,62,63] [])
 (.blk 3 (.loop (.seq (.reg [] [.o 64 (.bin .lss (.t 63) (.t 62))] false [5,61,62,63,64] [])
 (.seq (.cond 64 .skip
 (.exit 3))
 (.seq (.blk 4 (.seq (.reg [] [.o 65 (.mv (.t 63)),
 .o 66 (.ia 1 none (.t 61) (.t 63)),
 .o 67 (.ld false 1 .cp (.k 66)),
 .o 8 (.mv (.k 65)),
 .o 9 (.mv (.k 67))] false [5,8,9,61,62,63] [])
 (.reg [] [.o 68 (.mv (.t 5)),
 .o 69 (.mv (.k 8)),
 .o 70 (.mv (.k 9)),
 .z 71 (.bd ([.i .i64 0,.l .o 2 []]) [(0,1,.k 70)]) 2,
 .o 72 (.call n_cell_Memory_Force [.k 68,.k 69,.k 71])] false [5,61,62,63] [])))
 (.reg [] [.o 73 (.bin .add (.k 63) (.c (.i .i64 1))),
 .o 63 (.mv (.k 73))] false [5,61,62,63] [])))))))
 (.seq (.reg [] [.o 75 (.bin .eql (.k 35) (.c (.i .i64 4))),
 .o 74 (.mv (.k 75))] false [1,5,74] [1])
 (.cond 74 (.reg [] [.o 76 (.mv (.t 5)),
 .z 77 (.ld true 5 .tk (.k 1)) 2,
 .o 78 (.call n_spread_tokens [.k 76,.k 77])] false [5] [])
 .skip))))))))))
 (.seq (.reg [] [.o 79 (.mv (.k 5)),
 .o 2 (.mv (.k 79)),
 .o 3 (.mv (.c (.i .i64 0)))] false [2,3] [])
 .ret)))))))⟩

def F_c_law17_sorted : F := ⟨1,[.inl 2],
 (.seq (.reg [.zz 0] [.o 2 (.mv (.c (.l .o 2 [])))] false [0] [])
 (.seq (.reg [] [.z 7 (.bs 2 0 (.a ([.f .f64 0,.i .i64 0])) []) 1,
 .o 3 (.mv (.k 7))] false [0,3] [])
 (.seq (.seq (.reg [] [.o 8 (.mv (.k 0)),
 .o 9 (.len false (.t 8)),
 .o 10 (.mv (.c (.i .i64 0)))] false [3,8,9,10] [])
 (.blk 0 (.loop (.seq (.reg [] [.o 11 (.bin .lss (.t 10) (.t 9))] false [3,8,9,10,11] [])
 (.seq (.cond 11 .skip
 (.exit 0))
 (.seq (.blk 1 (.seq (.reg [] [.o 12 (.ia 2 none (.t 8) (.t 10)),
 .o 13 (.ld true 2 .cp (.k 12)),
 .o 5 (.al ([.f .f64 0,.i .i64 0])),
 .s (.st 2 (.t 5) (.k 13))] false [3,5,8,9,10] [5])
 (.seq (.reg [] [.o 14 (.mv (.t 3)),
 .o 15 (.len false (.k 14)),
 .o 6 (.mv (.k 15))] false [3,5,6,8,9,10] [5])
 (.seq (.blk 2 (.loop (.seq (.seq (.reg [] [.o 16 (.mv (.t 6)),
 .o 17 (.bin .gtr (.k 16) (.c (.i .i64 0))),
 .o 18 (.mv (.k 17)),
 .c 18 true 19 (.ld true 2 .cp (.t 5)),
 ⟨some 20,some (18,true),.mv (.t 3),[3],0⟩,
 ⟨some 21,some (18,true),.mv (.t 6),[3,4],0⟩,
 ⟨some 22,some (18,true),.bin .sub (.k 21) (.c (.i .i64 1)),[3,4],0⟩,
 ⟨some 23,some (18,true),.ia 2 none (.k 20) (.k 22),[3],0⟩,
 ⟨some 24,some (18,true),.ld true 2 .cp (.k 23),[3],0⟩,
 .c 18 true 25 (.call n_pile_Item_Cmp [.k 19,.k 24]),
 .c 18 true 26 (.bin .lss (.k 25) (.c (.i .i64 0))),
 .o 27 (.pick (.t 18) (.k 26) (.c (.b false)))] true [3,5,6,8,9,10,27] [5])
 (.cond 27 .skip
 (.exit 2)))
 (.blk 3 (.reg [] [.o 28 (.mv (.k 6)),
 .o 29 (.bin .sub (.k 28) (.c (.i .i64 1))),
 .o 6 (.mv (.k 29))] false [3,5,6,8,9,10] [5])))))
 (.reg [] [.o 30 (.mv (.t 3)),
 .u 31 (.mv (.t 6)) [0] 0,
 .u 32 (.mv (.t 6)) [0,1] 0,
 .o 33 (.sl 2 (.k 30) none (some (.k 31)) (some (.k 32))),
 .u 34 (.ld true 2 .cp (.k 5)) [0,1,2,3] 0,
 .u 35 (.bs 2 1 (.a ([.f .f64 0,.i .i64 0])) [(0,.k 34)]) [0,1,2,3] 1,
 .u 36 (.mv (.t 3)) [0,1,2,3,4,5] 0,
 .u 37 (.mv (.t 6)) [0,1,2,3,4,5,6] 0,
 .u 38 (.sl 2 (.k 36) (some (.k 37)) none none) [0,1,2,3,4,5] 0,
 .u 39 (.app 2 16 (.k 35) (.k 38)) [0,1,2,3] 1,
 .z 40 (.app 2 16 (.k 33) (.k 39)) 1,
 .o 3 (.mv (.k 40))] true [3,8,9,10] [])))))
 (.reg [] [.o 41 (.bin .add (.k 10) (.c (.i .i64 1))),
 .o 10 (.mv (.k 41))] false [3,8,9,10] [])))))))
 (.seq (.reg [] [.o 42 (.mv (.k 3)),
 .o 2 (.mv (.k 42))] false [2] [])
 .ret))))⟩

def F_image_Image_Check : F := ⟨1,[.inl 2],
 (.seq (.reg [.zz 0] [.o 1 (.bx (.k 0)),
 .o 2 (.mv (.c (.i .i64 0)))] false [1] [1])
 (.seq (.seq (.reg [] [.o 13 (.fa 0 (.t 1)),
 .o 14 (.ld false 1 .cp (.k 13)),
 .o 15 (.fa 1 (.t 1)),
 .o 16 (.ld false 1 .cp (.k 15)),
 .o 17 (.call n_op_Legal [.k 14,.k 16]),
 .o 3 (.mv (.k 17))] false [1,3] [1])
 (.seq (.reg [] [.o 18 (.mv (.t 3)),
 .o 19 (.bin .neq (.k 18) (.c (.i .i64 0)))] false [1,3,19] [1])
 (.cond 19 (.seq (.reg [] [.o 20 (.mv (.k 3)),
 .o 2 (.mv (.k 20))] false [2] [])
 .ret)
 .skip)))
 (.seq (.reg [] [.o 22 (.fa 0 (.t 1)),
 .o 23 (.ld false 1 .cp (.k 22)),
 .o 24 (.fa 1 (.t 1)),
 .o 25 (.ld false 1 .cp (.k 24)),
 .o 26 (.call n_image_Shape [.k 23,.k 25]),
 .o 21 (.mv (.k 26)),
 .o 27 (.ex false 0 21),
 .o 28 (.ex false 1 21),
 .o 4 (.mv (.k 27)),
 .o 5 (.mv (.k 28))] false [1,4,5] [1])
 (.seq (.seq (.reg [] [.o 29 (.fa 3 (.t 1)),
 .o 30 (.ld false 1 .cp (.k 29)),
 .o 31 (.len false (.k 30)),
 .o 32 (.mv (.k 4)),
 .o 33 (.bin .neq (.k 31) (.k 32)),
 .o 34 (.mv (.k 33)),
 .c 34 false 35 (.fa 4 (.t 1)),
 .c 34 false 36 (.ld false 1 .cp (.k 35)),
 .c 34 false 37 (.len false (.k 36)),
 .c 34 false 38 (.mv (.k 5)),
 .c 34 false 39 (.bin .neq (.k 37) (.k 38)),
 .o 40 (.pick (.k 34) (.c (.b true)) (.k 39))] false [1,40] [1])
 (.cond 40 (.seq (.reg [] [.o 2 (.mv (.c (.i .i64 2)))] false [2] [])
 .ret)
 .skip))
 (.seq (.reg [] [.o 6 (.mv (.c (.i .i64 0)))] false [1,6] [1])
 (.seq (.seq (.reg [] [.o 41 (.fa 3 (.t 1)),
 .o 42 (.ld false 1 .cp (.k 41)),
 .o 43 (.len false (.t 42)),
 .o 44 (.mv (.c (.i .i64 0)))] false [1,6,42,43,44] [1])
 (.blk 0 (.loop (.seq (.reg [] [.o 45 (.bin .lss (.t 44) (.t 43))] false [1,6,42,43,44,45] [1])
 (.seq (.cond 45 .skip
 (.exit 0))
 (.seq (.blk 1 (.seq (.reg [] [.o 46 (.ia 1 none (.t 42) (.t 44)),
 .o 47 (.ld false 1 .cp (.k 46)),
 .o 8 (.mv (.k 47))] false [1,6,8,42,43,44] [1])
 (.seq (.seq (.reg [] [.o 48 (.fa 0 (.t 1)),
 .o 49 (.ld false 1 .cp (.k 48)),
 .z 50 (.mv (.t 8)) 2,
 .o 51 (.call n_image_order [.k 49,.k 50]),
 .o 9 (.mv (.k 51))] false [1,6,8,9,42,43,44] [1])
 (.seq (.reg [] [.o 52 (.mv (.t 9)),
 .o 53 (.bin .neq (.k 52) (.c (.i .i64 0)))] false [1,6,8,9,42,43,44,53] [1])
 (.cond 53 (.seq (.reg [] [.o 54 (.mv (.k 9)),
 .o 2 (.mv (.k 54))] false [2] [])
 .ret)
 .skip)))
 (.reg [] [.o 55 (.mv (.k 6)),
 .o 56 (.mv (.k 8)),
 .o 57 (.len false (.k 56)),
 .o 58 (.bin .add (.k 55) (.k 57)),
 .o 6 (.mv (.k 58))] false [1,6,42,43,44] [1]))))
 (.reg [] [.o 59 (.bin .add (.k 44) (.c (.i .i64 1))),
 .o 44 (.mv (.k 59))] false [1,6,42,43,44] [1])))))))
 (.seq (.seq (.reg [] [.o 60 (.mv (.k 6)),
 .o 61 (.bin .gtr (.k 60) (.c (.i .i64 1000)))] false [1,61] [1])
 (.cond 61 (.seq (.reg [] [.o 2 (.mv (.c (.i .i64 3)))] false [2] [])
 .ret)
 .skip))
 (.seq (.reg [] [.o 10 (.mv (.c (.i .i64 0)))] false [1,10] [1])
 (.seq (.seq (.reg [] [.o 62 (.fa 4 (.k 1)),
 .o 63 (.ld false 1 .tk (.k 62)),
 .o 64 (.len false (.t 63)),
 .o 65 (.mv (.c (.i .i64 0)))] false [10,63,64,65] [])
 (.blk 2 (.loop (.seq (.reg [] [.o 66 (.bin .lss (.t 65) (.t 64))] false [10,63,64,65,66] [])
 (.seq (.cond 66 .skip
 (.exit 2))
 (.seq (.blk 3 (.seq (.reg [] [.o 67 (.ia 1 none (.t 63) (.t 65)),
 .o 68 (.ld false 1 .cp (.k 67)),
 .o 12 (.mv (.k 68))] false [10,12,63,64,65] [])
 (.seq (.seq (.reg [] [.o 69 (.mv (.t 12)),
 .o 70 (.bin .lss (.k 69) (.c (.i .i64 0))),
 .o 71 (.mv (.k 70)),
 .c 71 false 72 (.mv (.t 12)),
 .c 71 false 73 (.bin .gtr (.k 72) (.c (.i .i64 1125899906842624))),
 .o 74 (.pick (.k 71) (.c (.b true)) (.k 73))] false [10,12,63,64,65,74] [])
 (.cond 74 (.seq (.reg [] [.o 2 (.mv (.c (.i .i64 4)))] false [2] [])
 .ret)
 .skip))
 (.reg [] [.o 75 (.mv (.k 10)),
 .o 76 (.mv (.k 12)),
 .o 77 (.bin .add (.k 75) (.k 76)),
 .o 10 (.mv (.k 77))] false [10,63,64,65] []))))
 (.reg [] [.o 78 (.bin .add (.k 65) (.c (.i .i64 1))),
 .o 65 (.mv (.k 78))] false [10,63,64,65] [])))))))
 (.seq (.seq (.reg [] [.o 79 (.mv (.k 10)),
 .o 80 (.bin .gtr (.k 79) (.c (.i .i64 1125899906842624)))] false [80] [])
 (.cond 80 (.seq (.reg [] [.o 2 (.mv (.c (.i .i64 4)))] false [2] [])
 .ret)
 .skip))
 (.seq (.reg [] [.o 2 (.mv (.c (.i .i64 0)))] false [2] [])
 .ret)))))))))))⟩

def F_image_Room : F := ⟨1,[.inl 2],
 (.seq (.reg [] [.o 2 (.mv (.c (.i .i64 0)))] false [0] [])
 (.seq (.reg [] [.o 3 (.mv (.t 0)),
 .o 4 (.mx true [.k 3,.c (.i .i64 1)]),
 .o 5 (.bin .quo (.c (.i .i64 998)) (.k 4)),
 .o 6 (.mv (.k 0)),
 .o 7 (.mx true [.k 6,.c (.i .i64 1)]),
 .o 8 (.bin .mul (.k 5) (.k 7)),
 .o 2 (.mv (.k 8))] false [2] [])
 .ret))⟩

def F_spread_Deal : F := ⟨2,[.inl 4],
 (.seq (.reg [.zz 0] [.o 4 (.mv (.c (.l .o 1 [])))] false [0,1] [])
 (.seq (.reg [] [.o 7 (.mv (.t 1)),
 .o 8 (.mx true [.k 7,.c (.i .i64 0)]),
 .o 9 (.ms 1 24 (.l .o 2 []) (.t 8) (.t 8)),
 .o 5 (.mv (.k 9))] false [0,1,5] [5])
 (.seq (.seq (.reg [] [.o 6 (.mv (.c (.i .i64 0)))] false [0,1,5,6] [5])
 (.blk 0 (.loop (.seq (.seq (.reg [] [.o 10 (.mv (.t 6)),
 .o 11 (.mv (.t 0)),
 .o 12 (.len false (.k 11)),
 .o 13 (.bin .lss (.k 10) (.k 12)),
 .o 14 (.mv (.k 13)),
 .c 14 true 15 (.mv (.t 1)),
 .c 14 true 16 (.bin .gtr (.k 15) (.c (.i .i64 0))),
 .o 17 (.pick (.k 14) (.k 16) (.c (.b false)))] false [0,1,5,6,17] [5])
 (.cond 17 .skip
 (.exit 0)))
 (.seq (.blk 1 (.reg [.thaw 5] [.o 20 (.mv (.t 5)),
 .u 21 (.mv (.t 6)) [0] 0,
 .u 22 (.mv (.t 1)) [0,1] 0,
 .u 23 (.bin .rem (.k 21) (.k 22)) [0] 0,
 .u 24 (.mv (.t 5)) [0,1,2,3] 0,
 .u 25 (.mv (.t 6)) [0,1,2,3,4] 0,
 .u 26 (.mv (.t 1)) [0,1,2,3,4,5] 0,
 .u 27 (.bin .rem (.k 25) (.k 26)) [0,1,2,3,4] 0,
 .u 28 (.ia 1 none (.k 24) (.k 27)) [0,1,2,3] 0,
 .u 29 (.ld false 1 .tk (.k 28)) [0,1,2,3] 0,
 .u 30 (.mv (.t 0)) [0,1,2,3,4,5,6,7,8,9] 0,
 .u 31 (.mv (.t 6)) [0,1,2,3,4,5,6,7,8,9,10] 0,
 .u 32 (.ia 2 none (.k 30) (.k 31)) [0,1,2,3,4,5,6,7,8,9] 0,
 .u 33 (.ld true 2 .cp (.k 32)) [0,1,2,3,4,5,6,7,8,9] 0,
 .u 34 (.bs 2 1 (.a ([.f .f64 0,.i .i64 0])) [(0,.k 33)]) [0,1,2,3,4,5,6,7,8,9] 0,
 .u 35 (.app 2 16 (.k 29) (.k 34)) [0,1,2,3] 1,
 .o 36 (.ia 1 none (.k 20) (.k 23)),
 .s (.st 1 (.k 36) (.k 35))] true [0,1,5,6] [5]))
 (.reg [] [.o 18 (.mv (.k 6)),
 .o 19 (.bin .add (.k 18) (.c (.i .i64 1))),
 .o 6 (.mv (.k 19))] false [0,1,5,6] [5]))))))
 (.seq (.reg [.unth 5] [.o 37 (.mv (.k 5)),
 .o 4 (.mv (.k 37))] false [4] [])
 .ret))))⟩

def F_wire_Even : F := ⟨2,[.inl 4],
 (.seq (.reg [] [.o 4 (.mv (.c (.l .o 1 [])))] false [0,1] [])
 (.seq (.reg [] [.o 7 (.mv (.t 1)),
 .o 8 (.mx true [.k 7,.c (.i .i64 0)]),
 .o 9 (.ms 1 8 (.i .i64 0) (.t 8) (.t 8)),
 .o 5 (.mv (.k 9))] false [0,1,5] [5])
 (.seq (.seq (.reg [.thaw 5] [.o 10 (.mv (.t 5)),
 .o 11 (.len false (.k 10)),
 .o 12 (.mv (.c (.i .i64 0)))] false [0,1,5,11,12] [5])
 (.blk 0 (.loop (.seq (.reg [] [.o 13 (.bin .lss (.t 12) (.t 11))] false [0,1,5,11,12,13] [5])
 (.seq (.cond 13 .skip
 (.exit 0))
 (.seq (.blk 1 (.seq (.reg [] [.o 14 (.mv (.t 12)),
 .o 6 (.mv (.k 14))] false [0,1,5,6,11,12] [5])
 (.seq (.reg [.thaw 5] [.o 15 (.mv (.t 5)),
 .o 16 (.mv (.t 6)),
 .o 17 (.mv (.t 0)),
 .o 18 (.mv (.t 1)),
 .o 19 (.bin .quo (.k 17) (.k 18)),
 .o 20 (.ia 1 none (.k 15) (.k 16)),
 .s (.st 1 (.k 20) (.k 19))] false [0,1,5,6,11,12] [5])
 (.seq (.reg [] [.o 21 (.mv (.t 6)),
 .o 22 (.mv (.t 0)),
 .o 23 (.mv (.t 1)),
 .o 24 (.bin .rem (.k 22) (.k 23)),
 .o 25 (.bin .lss (.k 21) (.k 24))] false [0,1,5,6,11,12,25] [5])
 (.cond 25 (.reg [.thaw 5] [.o 26 (.mv (.t 5)),
 .o 27 (.mv (.k 6)),
 .o 28 (.ia 1 none (.t 26) (.t 27)),
 .o 29 (.ld false 1 .cp (.k 28)),
 .o 30 (.bin .add (.k 29) (.c (.i .i64 1))),
 .o 31 (.ia 1 none (.k 26) (.k 27)),
 .s (.st 1 (.k 31) (.k 30))] false [0,1,5,11,12] [5])
 .skip)))))
 (.reg [] [.o 32 (.bin .add (.k 12) (.c (.i .i64 1))),
 .o 12 (.mv (.k 32))] false [0,1,5,11,12] [5])))))))
 (.seq (.reg [.unth 5] [.o 33 (.mv (.k 5)),
 .o 4 (.mv (.k 33))] false [4] [])
 .ret))))⟩

def F_cell_Memory_Write : F := ⟨4,[.inl 8],
 (.seq (.reg [.zz 3] [.o 7 (.bx (.k 3)),
 .o 8 (.mv (.c (.b false)))] false [0,1,2,7] [7])
 (.seq (.seq (.reg [] [.o 9 (.mv (.t 1)),
 .o 10 (.bin .lss (.k 9) (.c (.i .i64 0))),
 .o 11 (.mv (.k 10)),
 .c 11 false 12 (.mv (.t 1)),
 .c 11 false 13 (.bin .geq (.k 12) (.c (.i .i64 1000))),
 .o 14 (.pick (.k 11) (.c (.b true)) (.k 13)),
 .o 15 (.mv (.k 14)),
 .c 15 false 16 (.mv (.t 0)),
 .c 15 false 17 (.mv (.t 1)),
 .c 15 false 18 (.call n_cell_Memory_Read [.k 16,.k 17]),
 .c 15 false 19 (.fd false 0 1 (.k 18)),
 .c 15 false 20 (.mv (.k 2)),
 .c 15 false 21 (.bin .neq (.k 19) (.k 20)),
 .o 22 (.pick (.k 15) (.c (.b true)) (.k 21))] false [0,1,7,22] [7])
 (.cond 22 (.seq (.reg [] [.o 8 (.mv (.c (.b false)))] false [8] [])
 .ret)
 .skip))
 (.seq (.blk 0 (.loop (.seq (.seq (.reg [] [.o 23 (.mv (.t 0)),
 .o 24 (.nc (.k 23)),
 .o 25 (.fa 0 (.k 24)),
 .z 26 (.lda 1 (.k 25)) 1,
 .o 27 (.len false (.k 26)),
 .o 28 (.mv (.t 1)),
 .o 29 (.bin .leq (.k 27) (.k 28))] false [0,1,7,29] [7])
 (.cond 29 .skip
 (.exit 0)))
 (.blk 1 (.reg [] [.o 30 (.mv (.t 0)),
 .o 31 (.mv (.t 0)),
 .o 32 (.nc (.k 31)),
 .o 33 (.fa 0 (.k 32)),
 .o 34 (.ld false 1 .tk (.k 33)),
 .o 35 (.bd ([.i .u64 0,.i .i64 0,.l .o 2 []]) []),
 .o 36 (.bs 3 1 (.a ([.i .u64 0,.i .i64 0,.l .o 2 []])) [(0,.k 35)]),
 .o 37 (.app 3 40 (.k 34) (.k 36)),
 .o 38 (.nc (.k 30)),
 .o 39 (.fa 0 (.k 38)),
 .s (.st 1 (.k 39) (.k 37))] false [0,1,7] [7])))))
 (.seq (.reg [] [.o 40 (.mv (.t 0)),
 .o 41 (.nc (.t 40)),
 .o 42 (.fa 1 (.k 41)),
 .o 43 (.ld false 1 .cp (.k 42)),
 .o 44 (.bin .add (.k 43) (.c (.i .u64 1))),
 .o 45 (.nc (.k 40)),
 .o 46 (.fa 1 (.k 45)),
 .s (.st 1 (.k 46) (.k 44))] false [0,1,7] [7])
 (.seq (.reg [] [.o 47 (.mv (.t 0)),
 .o 48 (.nc (.k 47)),
 .o 49 (.fa 0 (.k 48)),
 .o 50 (.lda 1 (.k 49)),
 .u 51 (.mv (.k 1)) [0,1,2,3] 0,
 .u 52 (.mv (.t 0)) [0,1,2,3,4] 0,
 .u 53 (.nc (.k 52)) [0,1,2,3,4] 0,
 .u 54 (.fa 1 (.k 53)) [0,1,2,3,4] 0,
 .u 55 (.ld false 1 .cp (.k 54)) [0,1,2,3,4] 0,
 .u 56 (.ld true 2 .cp (.k 7)) [0,1,2,3,4,5,6,7,8] 2,
 .u 57 (.callp n_cell_Value_Clone [.k 56]) [0,1,2,3,4,5,6,7,8] 0,
 .u 58 (.bd ([.i .u64 0,.i .i64 0,.l .o 2 []]) [(0,1,.k 55),(1,2,.k 57)]) [0,1,2,3,4] 0,
 .o 59 (.ia 3 none (.k 50) (.k 51)),
 .s (.st 3 (.k 59) (.k 58))] true [] [])
 (.seq (.reg [] [.o 8 (.mv (.c (.b true)))] false [8] [])
 .ret))))))⟩

def F_engine_machine : F := ⟨2,[.inl 4,.inl 5],
 (.seq (.reg [] [.o 4 (.mv (.c (.nili))),
 .o 5 (.mv (.c (.i .i64 0)))] false [0,1] [])
 (.seq (.seq (.reg [] [.o 6 (.mv (.k 0))] false [1,6] [])
 (.blk 0 (.seq (.reg [] [.o 8 (.bin .eql (.t 6) (.c (.i .i64 1))),
 .o 7 (.mv (.k 8))] false [1,6,7] [])
 (.cond 7 (.seq (.reg [] [.o 9 (.mv (.k 1)),
 .o 10 (.call n_multi_New [.k 9]),
 .o 11 (.ex false 0 10),
 .o 12 (.ex false 1 10),
 .o 13 (.mi t_multi_Multi (.k 11)),
 .o 4 (.mv (.k 13)),
 .o 5 (.mv (.k 12))] false [4,5] [])
 .ret)
 (.seq (.reg [] [.o 15 (.bin .eql (.t 6) (.c (.i .i64 2))),
 .o 14 (.mv (.k 15))] false [1,6,14] [])
 (.cond 14 (.seq (.reg [] [.o 16 (.mv (.k 1)),
 .o 17 (.call n_kfifo_New [.k 16]),
 .o 18 (.ex false 0 17),
 .o 19 (.ex false 1 17),
 .o 20 (.mi t_kfifo_Queue (.k 18)),
 .o 4 (.mv (.k 20)),
 .o 5 (.mv (.k 19))] false [4,5] [])
 .ret)
 (.seq (.reg [] [.o 22 (.bin .eql (.t 6) (.c (.i .i64 3))),
 .o 21 (.mv (.k 22))] false [1,6,21] [])
 (.cond 21 (.seq (.reg [] [.o 23 (.mv (.k 1)),
 .o 24 (.call n_tally_New [.k 23]),
 .o 25 (.ex false 0 24),
 .o 26 (.ex false 1 24),
 .o 27 (.mi t_tally_Tally (.k 25)),
 .o 4 (.mv (.k 27)),
 .o 5 (.mv (.k 26))] false [4,5] [])
 .ret)
 (.seq (.reg [] [.o 29 (.bin .eql (.k 6) (.c (.i .i64 4))),
 .o 28 (.mv (.k 29))] false [1,28] [])
 (.cond 28 (.seq (.reg [] [.o 30 (.mv (.k 1)),
 .o 31 (.callp n_net_New [.k 30]),
 .o 32 (.ex false 0 31),
 .o 33 (.ex false 1 31),
 .o 34 (.mi t_net_Net (.k 32)),
 .o 4 (.mv (.k 34)),
 .o 5 (.mv (.k 33))] false [4,5] [])
 .ret)
 .skip))))))))))
 (.seq (.reg [] [.o 4 (.mv (.c (.nili))),
 .o 5 (.mv (.c (.i .i64 6)))] false [4,5] [])
 .ret)))⟩

def F_cell_Value_Clone : F := ⟨1,[.inr (2,true,2)],
 (.seq (.reg [.zz 0] [.o 1 (.bx (.k 0)),
 .o 2 (.al ([.i .i64 0,.l .o 2 []]))] false [1,2] [1,2])
 (.seq (.reg [] [.o 3 (.fa 0 (.t 1)),
 .o 4 (.ld false 1 .cp (.k 3)),
 .u 5 (.fa 1 (.t 1)) [0,1] 0,
 .u 6 (.ld false 1 .cp (.k 5)) [0,1] 0,
 .u 7 (.app 2 16 (.c (.l .o 2 [])) (.k 6)) [0,1] 1,
 .o 8 (.bd ([.i .i64 0,.l .o 2 []]) [(0,1,.k 4),(1,1,.k 7)]),
 .s (.st 2 (.t 2) (.k 8))] true [2] [2])
 .ret))⟩

def F_container_heap_Init : F := ⟨1,[],
 (.seq (.reg [] [.o 4 (.mv (.t 0)),
 .o 5 (.inv "Len" (.k 4) []),
 .o 2 (.mv (.k 5))] false [0,2] [])
 (.seq (.reg [] [.o 6 (.mv (.t 2)),
 .o 7 (.bin .quo (.k 6) (.c (.i .i64 2))),
 .o 8 (.bin .sub (.k 7) (.c (.i .i64 1))),
 .o 3 (.mv (.k 8))] false [0,2,3] [])
 (.blk 0 (.loop (.seq (.seq (.reg [] [.o 9 (.mv (.t 3)),
 .o 10 (.bin .geq (.k 9) (.c (.i .i64 0)))] false [0,2,3,10] [])
 (.cond 10 .skip
 (.exit 0)))
 (.seq (.blk 1 (.reg [] [.o 13 (.mv (.t 0)),
 .o 14 (.mv (.t 3)),
 .o 15 (.mv (.t 2)),
 .o 16 (.call n_container_heap_down [.k 13,.k 14,.k 15])] false [0,2,3] []))
 (.reg [] [.o 11 (.mv (.k 3)),
 .o 12 (.bin .sub (.k 11) (.c (.i .i64 1))),
 .o 3 (.mv (.k 12))] false [0,2,3] [])))))))⟩

def F_pile_Pile_Take : F := ⟨1,[.inr (2,true,2),.inl 3],
 (.seq (.reg [] [.o 2 (.al ([.f .f64 0,.i .i64 0])),
 .o 3 (.mv (.c (.b false)))] false [0,2] [2])
 (.seq (.seq (.reg [] [.o 4 (.mv (.t 0)),
 .o 5 (.nc (.k 4)),
 .o 6 (.fa 0 (.k 5)),
 .z 7 (.lda 1 (.k 6)) 1,
 .o 8 (.len false (.k 7)),
 .o 9 (.bin .eql (.k 8) (.c (.i .i64 0)))] false [0,2,9] [2])
 (.cond 9 (.seq (.reg [] [.o 10 (.bd ([.f .f64 0,.i .i64 0]) []),
 .s (.st 2 (.t 2) (.k 10)),
 .o 3 (.mv (.c (.b false)))] false [2,3] [2])
 .ret)
 .skip))
 (.seq (.reg [] [.o 11 (.mv (.k 0)),
 .o 12 (.nc (.k 11)),
 .o 13 (.fa 0 (.k 12)),
 .o 14 (.mi t_pile_items_u (.k 13)),
 .o 15 (.call n_container_heap_Pop [.k 14]),
 .o 16 (.ta t_pile_Item (.k 15)),
 .s (.st 2 (.t 2) (.k 16)),
 .o 3 (.mv (.c (.b true)))] false [2,3] [2])
 .ret)))⟩

def F_cell_Memory_Len : F := ⟨1,[.inl 2],
 (.seq (.reg [] [.o 2 (.mv (.c (.i .i64 0)))] false [0] [])
 (.seq (.reg [] [.o 3 (.mv (.k 0)),
 .o 4 (.nc (.k 3)),
 .o 5 (.fa 0 (.k 4)),
 .z 6 (.lda 1 (.k 5)) 1,
 .o 7 (.len false (.k 6)),
 .o 2 (.mv (.k 7))] false [2] [])
 .ret))⟩

def F_value_line_1 : F := ⟨2,[.inl 4],
 (.seq (.reg [.zz 0,.zz 1] [.o 2 (.bx (.k 0)),
 .o 3 (.bx (.k 1)),
 .o 4 (.mv (.c (.i .i64 0)))] false [2,3] [2,3])
 (.seq (.reg [] [.o 5 (.fa 0 (.k 2)),
 .o 6 (.ld false 1 .cp (.k 5)),
 .o 7 (.cv (.int .i64) (.k 6)),
 .o 8 (.fa 0 (.k 3)),
 .o 9 (.ld false 1 .cp (.k 8)),
 .o 10 (.cv (.int .i64) (.k 9)),
 .o 11 (.bin .sub (.k 7) (.k 10)),
 .o 4 (.mv (.k 11))] false [4] [])
 .ret))⟩

def F_wire_Make : F := ⟨1,[.inr (2,true,3),.inl 3],
 (.seq (.reg [] [.o 2 (.al ([.i .i64 0,.l .o 2 [],.l .o 1 []])),
 .o 3 (.mv (.c (.i .i64 0)))] false [0,2] [2])
 (.seq (.seq (.reg [] [.o 8 (.mv (.t 0)),
 .o 9 (.call n_op_Legal [.c (.i .i64 4),.k 8]),
 .o 4 (.mv (.k 9))] false [0,2,4] [2])
 (.seq (.reg [] [.o 10 (.mv (.t 4)),
 .o 11 (.bin .neq (.k 10) (.c (.i .i64 0)))] false [0,2,4,11] [2])
 (.cond 11 (.seq (.reg [] [.o 12 (.bd ([.i .i64 0,.l .o 2 [],.l .o 1 []]) []),
 .o 13 (.mv (.k 4)),
 .s (.st 3 (.t 2) (.k 12)),
 .o 3 (.mv (.k 13))] false [2,3] [2])
 .ret)
 .skip)))
 (.seq (.reg [] [.o 14 (.mv (.t 0)),
 .o 15 (.bd ([.i .i64 0,.l .o 2 [],.l .o 1 []]) [(0,1,.k 14)]),
 .o 5 (.ag ([.i .i64 0,.l .o 2 [],.l .o 1 []])),
 .s (.st 3 (.t 5) (.k 15))] false [0,2,5] [2])
 (.seq (.reg [] [.o 16 (.mv (.k 0)),
 .o 17 (.ms 1 8 (.i .i64 0) (.t 16) (.t 16)),
 .o 6 (.mv (.k 17))] false [2,5,6] [2,6])
 (.seq (.seq (.reg [.thaw 6] [.o 18 (.mv (.t 6)),
 .o 19 (.len false (.k 18)),
 .o 20 (.mv (.c (.i .i64 0)))] false [2,5,6,19,20] [2,6])
 (.blk 0 (.loop (.seq (.reg [] [.o 21 (.bin .lss (.t 20) (.t 19))] false [2,5,6,19,20,21] [2,6])
 (.seq (.cond 21 .skip
 (.exit 0))
 (.seq (.blk 1 (.seq (.reg [] [.o 22 (.mv (.t 20)),
 .o 7 (.mv (.k 22))] false [2,5,6,7,19,20] [2,6])
 (.reg [.thaw 6] [.o 23 (.mv (.t 6)),
 .o 24 (.mv (.t 7)),
 .o 25 (.mv (.k 7)),
 .o 26 (.ia 1 none (.k 23) (.k 24)),
 .s (.st 1 (.k 26) (.k 25))] false [2,5,6,19,20] [2,6])))
 (.reg [] [.o 27 (.bin .add (.k 20) (.c (.i .i64 1))),
 .o 20 (.mv (.k 27))] false [2,5,6,19,20] [2,6])))))))
 (.seq (.reg [.unth 6] [.z 28 (.mv (.k 6)) 2,
 .o 29 (.call n_wire_Plan_count [.t 5,.k 28]),
 .o 30 (.fa 2 (.t 5)),
 .s (.st 1 (.k 30) (.k 29))] false [2,5] [2])
 (.seq (.reg [] [.o 31 (.ld true 3 .cp (.k 5)),
 .s (.st 3 (.t 2) (.k 31)),
 .o 3 (.mv (.c (.i .i64 0)))] false [2,3] [2])
 .ret)))))))⟩

def F_real_Cmp : F := ⟨2,[.inl 4],
 (.seq (.reg [] [.o 4 (.mv (.c (.i .i64 0)))] false [0,1] [])
 (.seq (.reg [] [.o 7 (.mv (.k 0)),
 .o 8 (.call n_real_Key [.k 7]),
 .o 9 (.mv (.k 1)),
 .o 10 (.call n_real_Key [.k 9]),
 .o 5 (.mv (.k 8)),
 .o 6 (.mv (.k 10))] false [5,6] [])
 (.seq (.blk 0 (.seq (.reg [] [.o 12 (.mv (.t 5)),
 .o 13 (.mv (.t 6)),
 .o 14 (.bin .lss (.k 12) (.k 13)),
 .o 11 (.mv (.k 14))] false [5,6,11] [])
 (.cond 11 (.seq (.reg [] [.o 4 (.mv (.c (.i .i64 (-1))))] false [4] [])
 .ret)
 (.seq (.reg [] [.o 16 (.mv (.k 5)),
 .o 17 (.mv (.k 6)),
 .o 18 (.bin .gtr (.k 16) (.k 17)),
 .o 15 (.mv (.k 18))] false [15] [])
 (.cond 15 (.seq (.reg [] [.o 4 (.mv (.c (.i .i64 1)))] false [4] [])
 .ret)
 .skip)))))
 (.seq (.reg [] [.o 4 (.mv (.c (.i .i64 0)))] false [4] [])
 .ret))))⟩

def F_spread_fifo : F := ⟨2,[],
 (.seq (.reg [.zz 1] [.o 3 (.bx (.k 1))] false [0,3] [3])
 (.seq (.reg [] [.o 10 (.fa 1 (.t 3)),
 .o 11 (.ld false 1 .cp (.k 10)),
 .o 12 (.call n_kfifo_New [.k 11]),
 .o 9 (.mv (.k 12)),
 .o 13 (.ex false 0 9),
 .o 14 (.ex false 1 9),
 .o 4 (.al ([.i .i64 0])),
 .s (.st 1 (.t 4) (.k 13)),
 .o 5 (.mv (.k 14))] false [0,3,4] [3,4])
 (.seq (.seq (.reg [] [.o 15 (.fa 3 (.t 3)),
 .o 16 (.ld false 1 .cp (.k 15)),
 .o 17 (.ia 1 none (.k 16) (.c (.i .i64 0))),
 .o 18 (.ld false 1 .cp (.k 17)),
 .o 19 (.len false (.t 18)),
 .o 20 (.mv (.c (.i .i64 0)))] false [0,3,4,18,19,20] [3,4])
 (.blk 0 (.loop (.seq (.reg [] [.o 21 (.bin .lss (.t 20) (.t 19))] false [0,3,4,18,19,20,21] [3,4])
 (.seq (.cond 21 .skip
 (.exit 0))
 (.seq (.blk 1 (.seq (.reg [] [.o 22 (.mv (.t 20)),
 .o 23 (.ia 2 none (.t 18) (.t 20)),
 .o 24 (.ld true 2 .cp (.k 23)),
 .o 7 (.al ([.f .f64 0,.i .i64 0])),
 .o 6 (.mv (.k 22)),
 .s (.st 2 (.t 7) (.k 24))] false [0,3,4,6,7,18,19,20] [3,4,7])
 (.reg [] [.o 25 (.mv (.t 0)),
 .u 26 (.ld true 1 .cp (.t 4)) [0] 0,
 .u 27 (.mv (.t 6)) [0,1] 0,
 .u 28 (.fa 1 (.t 3)) [0,1,2] 0,
 .u 29 (.ld false 1 .cp (.k 28)) [0,1,2] 0,
 .u 30 (.bin .quo (.k 27) (.k 29)) [0,1] 0,
 .u 31 (.mv (.t 6)) [0,1,2,3,4,5] 0,
 .u 32 (.fa 1 (.t 3)) [0,1,2,3,4,5,6] 0,
 .u 33 (.ld false 1 .cp (.k 32)) [0,1,2,3,4,5,6] 0,
 .u 34 (.bin .rem (.k 31) (.k 33)) [0,1,2,3,4,5] 0,
 .u 35 (.call n_kfifo_Queue_Slot [.k 26,.k 30,.k 34]) [0] 0,
 .u 36 (.ld true 2 .cp (.k 7)) [0,1,2,3,4,5,6,7,8,9,10] 0,
 .u 37 (.bs 2 1 (.a ([.f .f64 0,.i .i64 0])) [(0,.k 36)]) [0,1,2,3,4,5,6,7,8,9,10] 1,
 .u 38 (.bd ([.i .i64 0,.l .o 2 []]) [(0,1,.c (.i .i64 1)),(1,1,.k 37)]) [0,1,2,3,4,5,6,7,8,9,10] 2,
 .o 39 (.call n_cell_Memory_Force [.k 25,.k 35,.k 38])] true [0,3,4,18,19,20] [3,4])))
 (.reg [] [.o 40 (.bin .add (.k 20) (.c (.i .i64 1))),
 .o 20 (.mv (.k 40))] false [0,3,4,18,19,20] [3,4])))))))
 (.seq (.reg [] [.o 41 (.fa 3 (.t 3)),
 .o 42 (.ld false 1 .cp (.k 41)),
 .o 43 (.ia 1 none (.k 42) (.c (.i .i64 0))),
 .o 44 (.ld false 1 .cp (.k 43)),
 .o 45 (.len false (.k 44)),
 .o 8 (.mv (.k 45))] false [0,3,8] [3])
 (.seq (.reg [] [.o 46 (.mv (.t 8)),
 .o 47 (.bin .gtr (.k 46) (.c (.i .i64 0)))] false [0,3,8,47] [3])
 (.cond 47 (.reg [] [.o 48 (.mv (.k 0)),
 .o 49 (.mv (.k 8)),
 .o 50 (.bin .sub (.k 49) (.c (.i .i64 1))),
 .o 51 (.fa 1 (.k 3)),
 .o 52 (.ld false 1 .cp (.k 51)),
 .o 53 (.bin .quo (.k 50) (.k 52)),
 .z 54 (.bd ([.i .i64 0,.l .o 2 []]) [(0,1,.k 53)]) 2,
 .o 55 (.call n_cell_Memory_Force [.k 48,.c (.i .i64 1),.k 54])] false [] [])
 .skip))))))⟩

def F_spread_tokens : F := ⟨2,[],
 (.seq (.reg [.zz 1] [.o 3 (.bx (.k 1))] false [0,3] [3])
 (.seq (.reg [] [.o 11 (.fa 1 (.t 3)),
 .o 12 (.ld false 1 .cp (.k 11)),
 .o 13 (.callp n_net_New [.k 12]),
 .o 10 (.mv (.k 13)),
 .o 14 (.ex false 0 10),
 .o 15 (.ex false 1 10),
 .o 4 (.al ([.i .i64 0,.l .o 2 [],.l .o 1 []])),
 .s (.st 3 (.t 4) (.k 14)),
 .o 5 (.mv (.k 15))] false [0,3,4] [3,4])
 (.seq (.reg [] [.o 17 (.fa 0 (.k 4)),
 .z 18 (.ld true 3 .cp (.k 17)) 2,
 .u 19 (.fa 4 (.t 3)) [0,1] 0,
 .u 20 (.ld false 1 .cp (.k 19)) [0,1] 0,
 .u 21 (.ia 1 none (.k 20) (.c (.i .i64 0))) [0,1] 0,
 .u 22 (.ld false 1 .cp (.k 21)) [0,1] 0,
 .u 23 (.fa 1 (.t 3)) [0,1,2,3,4,5] 0,
 .u 24 (.ld false 1 .cp (.k 23)) [0,1,2,3,4,5] 0,
 .u 25 (.call n_wire_Even [.k 22,.k 24]) [0,1] 2,
 .o 26 (.call n_wire_Plan_Pass [.k 18,.k 25]),
 .o 16 (.mv (.k 26)),
 .o 27 (.ex true 0 16),
 .u 28 (.ex false 1 16) [11] 0,
 .u 6 (.mv (.k 27)) [12] 0,
 .o 7 (.mv (.k 28))] true [0,6,7] [])
 (.seq (.reg [] [.o 29 (.mv (.k 6)),
 .o 30 (.mv (.k 7)),
 .z 31 (.app 1 8 (.k 29) (.k 30)) 1,
 .o 32 (.len false (.t 31)),
 .o 33 (.mv (.c (.i .i64 0)))] false [0,31,32,33] [])
 (.blk 0 (.loop (.seq (.reg [] [.o 34 (.bin .lss (.t 33) (.t 32))] false [0,31,32,33,34] [])
 (.seq (.cond 34 .skip
 (.exit 0))
 (.seq (.blk 1 (.seq (.reg [] [.o 35 (.mv (.t 33)),
 .o 36 (.ia 1 none (.t 31) (.t 33)),
 .o 37 (.ld false 1 .cp (.k 36)),
 .o 8 (.mv (.k 35)),
 .o 9 (.mv (.k 37))] false [0,8,9,31,32,33] [])
 (.reg [] [.o 38 (.mv (.t 0)),
 .o 39 (.mv (.k 8)),
 .o 40 (.mv (.k 9)),
 .z 41 (.bd ([.i .i64 0,.l .o 2 []]) [(0,1,.k 40)]) 2,
 .o 42 (.call n_cell_Memory_Force [.k 38,.k 39,.k 41])] false [0,31,32,33] [])))
 (.reg [] [.o 43 (.bin .add (.k 33) (.c (.i .i64 1))),
 .o 33 (.mv (.k 43))] false [0,31,32,33] []))))))))))⟩

def F_image_Shape : F := ⟨2,[.inl 4,.inl 5],
 (.seq (.reg [] [.o 4 (.mv (.c (.i .i64 0))),
 .o 5 (.mv (.c (.i .i64 0)))] false [0,1] [])
 (.seq (.seq (.reg [] [.o 6 (.mv (.k 0))] false [1,6] [])
 (.blk 0 (.seq (.reg [] [.o 8 (.bin .eql (.t 6) (.c (.i .i64 1))),
 .o 7 (.mv (.k 8))] false [1,6,7] [])
 (.cond 7 (.seq (.reg [] [.o 9 (.mv (.k 1)),
 .o 4 (.mv (.k 9)),
 .o 5 (.mv (.c (.i .i64 0)))] false [4,5] [])
 .ret)
 (.seq (.reg [] [.o 11 (.bin .eql (.t 6) (.c (.i .i64 2))),
 .o 10 (.mv (.k 11))] false [1,6,10] [])
 (.cond 10 (.seq (.reg [] [.o 4 (.mv (.c (.i .i64 1))),
 .o 5 (.mv (.c (.i .i64 0)))] false [4,5] [])
 .ret)
 (.seq (.reg [] [.o 13 (.bin .eql (.t 6) (.c (.i .i64 3))),
 .o 12 (.mv (.k 13))] false [1,6,12] [])
 (.cond 12 (.seq (.reg [] [.o 14 (.mv (.k 1)),
 .o 4 (.mv (.c (.i .i64 0))),
 .o 5 (.mv (.k 14))] false [4,5] [])
 .ret)
 (.seq (.reg [] [.o 16 (.bin .eql (.k 6) (.c (.i .i64 4))),
 .o 15 (.mv (.k 16))] false [15] [])
 (.cond 15 (.seq (.reg [] [.o 4 (.mv (.c (.i .i64 0))),
 .o 5 (.mv (.c (.i .i64 1)))] false [4,5] [])
 .ret)
 .skip))))))))))
 (.seq (.reg [] [.o 4 (.mv (.c (.i .i64 0))),
 .o 5 (.mv (.c (.i .i64 0)))] false [4,5] [])
 .ret)))⟩

def F_image_order : F := ⟨2,[.inl 4],
 (.seq (.reg [.zz 1] [.o 4 (.mv (.c (.i .i64 0)))] false [0,1] [])
 (.seq (.seq (.reg [] [.o 6 (.mv (.t 0)),
 .o 7 (.bin .eql (.k 6) (.c (.i .i64 1))),
 .o 8 (.mv (.k 7)),
 .c 8 true 9 (.mv (.t 1)),
 .c 8 true 10 (.len false (.k 9)),
 .c 8 true 11 (.bin .gtr (.k 10) (.c (.i .i64 62))),
 .o 12 (.pick (.k 8) (.k 11) (.c (.b false)))] false [0,1,12] [])
 (.cond 12 (.seq (.reg [] [.o 4 (.mv (.c (.i .i64 3)))] false [4] [])
 .ret)
 .skip))
 (.seq (.seq (.reg [] [.o 5 (.mv (.c (.i .i64 1)))] false [0,1,5] [])
 (.blk 0 (.loop (.seq (.seq (.reg [] [.o 13 (.mv (.t 0)),
 .o 14 (.bin .eql (.k 13) (.c (.i .i64 1))),
 .o 15 (.mv (.k 14)),
 .c 15 true 16 (.mv (.t 5)),
 .c 15 true 17 (.mv (.t 1)),
 .c 15 true 18 (.len false (.k 17)),
 .c 15 true 19 (.bin .lss (.k 16) (.k 18)),
 .o 20 (.pick (.k 15) (.k 19) (.c (.b false)))] false [0,1,5,20] [])
 (.cond 20 .skip
 (.exit 0)))
 (.seq (.blk 1 (.seq (.reg [] [.o 23 (.mv (.t 1)),
 .u 24 (.mv (.t 5)) [0] 0,
 .o 25 (.ia 2 none (.k 23) (.k 24)),
 .o 26 (.ld true 2 .cp (.k 25)),
 .u 27 (.mv (.t 1)) [0,1,2,3] 0,
 .u 28 (.mv (.t 5)) [0,1,2,3,4] 0,
 .u 29 (.bin .sub (.k 28) (.c (.i .i64 1))) [0,1,2,3,4] 0,
 .u 30 (.ia 2 none (.k 27) (.k 29)) [0,1,2,3] 0,
 .u 31 (.ld true 2 .cp (.k 30)) [0,1,2,3] 0,
 .o 32 (.call n_pile_Item_Cmp [.k 26,.k 31]),
 .o 33 (.bin .lss (.k 32) (.c (.i .i64 0)))] true [0,1,5,33] [])
 (.cond 33 (.seq (.reg [] [.o 4 (.mv (.c (.i .i64 14)))] false [4] [])
 .ret)
 .skip)))
 (.reg [] [.o 21 (.mv (.k 5)),
 .o 22 (.bin .add (.k 21) (.c (.i .i64 1))),
 .o 5 (.mv (.k 22))] false [0,1,5] []))))))
 (.seq (.reg [] [.o 4 (.mv (.c (.i .i64 0)))] false [4] [])
 .ret))))⟩

def F_multi_New : F := ⟨1,[.inr (2,true,1),.inl 3],
 (.seq (.reg [] [.o 2 (.al ([.i .i64 0])),
 .o 3 (.mv (.c (.i .i64 0)))] false [0,2] [2])
 (.seq (.seq (.reg [] [.o 5 (.mv (.t 0)),
 .o 6 (.call n_op_Legal [.c (.i .i64 1),.k 5]),
 .o 4 (.mv (.k 6))] false [0,2,4] [2])
 (.seq (.reg [] [.o 7 (.mv (.t 4)),
 .o 8 (.bin .neq (.k 7) (.c (.i .i64 0)))] false [0,2,4,8] [2])
 (.cond 8 (.seq (.reg [] [.o 9 (.bd ([.i .i64 0]) []),
 .o 10 (.mv (.k 4)),
 .s (.st 1 (.t 2) (.k 9)),
 .o 3 (.mv (.k 10))] false [2,3] [2])
 .ret)
 .skip)))
 (.seq (.reg [] [.o 11 (.mv (.k 0)),
 .o 12 (.bd ([.i .i64 0]) [(0,1,.k 11)]),
 .s (.st 1 (.t 2) (.k 12)),
 .o 3 (.mv (.c (.i .i64 0)))] false [2,3] [2])
 .ret)))⟩

def F_kfifo_New : F := ⟨1,[.inr (2,true,1),.inl 3],
 (.seq (.reg [] [.o 2 (.al ([.i .i64 0])),
 .o 3 (.mv (.c (.i .i64 0)))] false [0,2] [2])
 (.seq (.seq (.reg [] [.o 5 (.mv (.t 0)),
 .o 6 (.call n_op_Legal [.c (.i .i64 2),.k 5]),
 .o 4 (.mv (.k 6))] false [0,2,4] [2])
 (.seq (.reg [] [.o 7 (.mv (.t 4)),
 .o 8 (.bin .neq (.k 7) (.c (.i .i64 0)))] false [0,2,4,8] [2])
 (.cond 8 (.seq (.reg [] [.o 9 (.bd ([.i .i64 0]) []),
 .o 10 (.mv (.k 4)),
 .s (.st 1 (.t 2) (.k 9)),
 .o 3 (.mv (.k 10))] false [2,3] [2])
 .ret)
 .skip)))
 (.seq (.reg [] [.o 11 (.mv (.k 0)),
 .o 12 (.bd ([.i .i64 0]) [(0,1,.k 11)]),
 .s (.st 1 (.t 2) (.k 12)),
 .o 3 (.mv (.c (.i .i64 0)))] false [2,3] [2])
 .ret)))⟩

def F_tally_New : F := ⟨1,[.inr (2,true,1),.inl 3],
 (.seq (.reg [] [.o 2 (.al ([.i .i64 0])),
 .o 3 (.mv (.c (.i .i64 0)))] false [0,2] [2])
 (.seq (.seq (.reg [] [.o 5 (.mv (.t 0)),
 .o 6 (.call n_op_Legal [.c (.i .i64 3),.k 5]),
 .o 4 (.mv (.k 6))] false [0,2,4] [2])
 (.seq (.reg [] [.o 7 (.mv (.t 4)),
 .o 8 (.bin .neq (.k 7) (.c (.i .i64 0)))] false [0,2,4,8] [2])
 (.cond 8 (.seq (.reg [] [.o 9 (.bd ([.i .i64 0]) []),
 .o 10 (.mv (.k 4)),
 .s (.st 1 (.t 2) (.k 9)),
 .o 3 (.mv (.k 10))] false [2,3] [2])
 .ret)
 .skip)))
 (.seq (.reg [] [.o 11 (.mv (.k 0)),
 .o 12 (.bd ([.i .i64 0]) [(0,1,.k 11)]),
 .s (.st 1 (.t 2) (.k 12)),
 .o 3 (.mv (.c (.i .i64 0)))] false [2,3] [2])
 .ret)))⟩

def F_container_heap_down : F := ⟨3,[.inl 6],
 (.seq (.reg [] [.o 6 (.mv (.c (.b false)))] false [0,1,2] [])
 (.seq (.reg [] [.o 11 (.mv (.t 1)),
 .o 7 (.mv (.k 11))] false [0,1,2,7] [])
 (.seq (.blk 0 (.loop (.blk 1 (.seq (.reg [] [.o 12 (.mv (.t 7)),
 .o 13 (.bin .mul (.c (.i .i64 2)) (.k 12)),
 .o 14 (.bin .add (.k 13) (.c (.i .i64 1))),
 .o 8 (.mv (.k 14))] false [0,1,2,7,8] [])
 (.seq (.seq (.reg [] [.o 15 (.mv (.t 8)),
 .o 16 (.mv (.t 2)),
 .o 17 (.bin .geq (.k 15) (.k 16)),
 .o 18 (.mv (.k 17)),
 .c 18 false 19 (.mv (.t 8)),
 .c 18 false 20 (.bin .lss (.k 19) (.c (.i .i64 0))),
 .o 21 (.pick (.k 18) (.c (.b true)) (.k 20))] false [0,1,2,7,8,21] [])
 (.cond 21 (.exit 0)
 .skip))
 (.seq (.reg [] [.o 22 (.mv (.t 8)),
 .o 9 (.mv (.k 22))] false [0,1,2,7,8,9] [])
 (.seq (.seq (.reg [] [.o 23 (.mv (.t 8)),
 .o 24 (.bin .add (.k 23) (.c (.i .i64 1))),
 .o 10 (.mv (.k 24))] false [0,1,2,7,8,9,10] [])
 (.seq (.reg [] [.o 25 (.mv (.t 10)),
 .o 26 (.mv (.t 2)),
 .o 27 (.bin .lss (.k 25) (.k 26)),
 .o 28 (.mv (.k 27)),
 .c 28 true 29 (.mv (.t 0)),
 .c 28 true 30 (.mv (.t 10)),
 .c 28 true 31 (.mv (.k 8)),
 .c 28 true 32 (.inv "Less" (.k 29) [.k 30,.k 31]),
 .o 33 (.pick (.k 28) (.k 32) (.c (.b false)))] false [0,1,2,7,9,10,33] [])
 (.cond 33 (.reg [] [.o 34 (.mv (.k 10)),
 .o 9 (.mv (.k 34))] false [0,1,2,7,9] [])
 .skip)))
 (.seq (.seq (.reg [] [.o 35 (.mv (.t 0)),
 .o 36 (.mv (.t 9)),
 .o 37 (.mv (.t 7)),
 .o 38 (.inv "Less" (.k 35) [.k 36,.k 37]),
 .o 39 (.un .not (.k 38))] false [0,1,2,7,9,39] [])
 (.cond 39 (.exit 0)
 .skip))
 (.seq (.reg [] [.o 40 (.mv (.t 0)),
 .o 41 (.mv (.k 7)),
 .o 42 (.mv (.t 9)),
 .o 43 (.inv "Swap" (.k 40) [.k 41,.k 42])] false [0,1,2,9] [])
 (.reg [] [.o 44 (.mv (.k 9)),
 .o 7 (.mv (.k 44))] false [0,1,2,7] []))))))))))
 (.seq (.reg [] [.o 45 (.mv (.k 7)),
 .o 46 (.mv (.k 1)),
 .o 47 (.bin .gtr (.k 45) (.k 46)),
 .o 6 (.mv (.k 47))] false [6] [])
 .ret))))⟩

def F_container_heap_Pop : F := ⟨1,[.inl 2],
 (.seq (.reg [] [.o 2 (.mv (.c (.nili)))] false [0] [])
 (.seq (.reg [] [.o 4 (.mv (.t 0)),
 .o 5 (.inv "Len" (.k 4) []),
 .o 6 (.bin .sub (.k 5) (.c (.i .i64 1))),
 .o 3 (.mv (.k 6))] false [0,3] [])
 (.seq (.reg [] [.o 7 (.mv (.t 0)),
 .o 8 (.mv (.t 3)),
 .o 9 (.inv "Swap" (.k 7) [.c (.i .i64 0),.k 8])] false [0,3] [])
 (.seq (.reg [] [.o 10 (.mv (.t 0)),
 .o 11 (.mv (.k 3)),
 .o 12 (.call n_container_heap_down [.k 10,.c (.i .i64 0),.k 11])] false [0] [])
 (.seq (.reg [] [.o 13 (.mv (.k 0)),
 .o 14 (.inv "Pop" (.k 13) []),
 .o 2 (.mv (.k 14))] false [2] [])
 .ret)))))⟩

def F_wire_Plan_count : F := ⟨2,[.inl 4],
 (.seq (.reg [.zz 1] [.o 4 (.mv (.c (.l .o 1 [])))] false [0,1] [])
 (.seq (.reg [] [.o 6 (.mv (.t 1)),
 .o 7 (.len false (.k 6)),
 .o 8 (.bin .quo (.k 7) (.c (.i .i64 2))),
 .o 5 (.mv (.k 8))] false [0,1,5] [])
 (.seq (.seq (.reg [] [.o 9 (.mv (.t 5)),
 .o 10 (.bin .eql (.k 9) (.c (.i .i64 0)))] false [0,1,5,10] [])
 (.cond 10 (.seq (.reg [] [.o 11 (.mv (.k 1)),
 .o 4 (.mv (.k 11))] false [4] [])
 .ret)
 .skip))
 (.seq (.reg [] [.o 12 (.mv (.t 0)),
 .u 13 (.mv (.t 0)) [0] 0,
 .u 14 (.mv (.t 1)) [0,1] 0,
 .u 15 (.mv (.t 5)) [0,1,2] 0,
 .u 16 (.sl 1 (.k 14) none (some (.k 15)) none) [0,1] 2,
 .u 17 (.call n_wire_Plan_count [.k 13,.k 16]) [0] 2,
 .u 18 (.mv (.t 0)) [0,1,2,3,4,5] 0,
 .u 19 (.mv (.t 1)) [0,1,2,3,4,5,6] 0,
 .u 20 (.mv (.t 5)) [0,1,2,3,4,5,6,7] 0,
 .u 21 (.sl 1 (.k 19) (some (.k 20)) none none) [0,1,2,3,4,5,6] 2,
 .u 22 (.call n_wire_Plan_count [.k 18,.k 21]) [0] 2,
 .o 23 (.call n_wire_Plan_merge [.k 12,.k 17,.k 22]),
 .o 4 (.mv (.k 23))] true [4] [])
 .ret))))⟩

def F_real_Key : F := ⟨1,[.inl 2],
 (.seq (.reg [] [.o 2 (.mv (.c (.i .u64 0)))] false [0] [])
 (.seq (.reg [] [.o 4 (.mv (.k 0)),
 .o 5 (.call n_real_Canon [.k 4]),
 .o 6 (.bits (.k 5)),
 .o 3 (.mv (.k 6))] false [3] [])
 (.seq (.seq (.reg [] [.o 7 (.mv (.t 3)),
 .o 8 (.bin .and (.k 7) (.c (.i .u64 9223372036854775808))),
 .o 9 (.bin .neq (.k 8) (.c (.i .u64 0)))] false [3,9] [])
 (.cond 9 (.seq (.reg [] [.o 10 (.mv (.k 3)),
 .o 11 (.un .xor (.k 10)),
 .o 2 (.mv (.k 11))] false [2] [])
 .ret)
 .skip))
 (.seq (.reg [] [.o 12 (.mv (.k 3)),
 .o 13 (.bin .or (.k 12) (.c (.i .u64 9223372036854775808))),
 .o 2 (.mv (.k 13))] false [2] [])
 .ret))))⟩

def F_kfifo_Queue_Slot : F := ⟨3,[.inl 6],
 (.seq (.reg [] [.o 3 (.bx (.k 0)),
 .o 6 (.mv (.c (.i .i64 0)))] false [1,2,3] [3])
 (.seq (.reg [] [.o 7 (.mv (.k 1)),
 .o 8 (.fa 0 (.k 3)),
 .o 9 (.ld false 1 .cp (.k 8)),
 .o 10 (.bin .mul (.k 7) (.k 9)),
 .o 11 (.bin .add (.c (.i .i64 2)) (.k 10)),
 .o 12 (.mv (.k 2)),
 .o 13 (.bin .add (.k 11) (.k 12)),
 .o 6 (.mv (.k 13))] false [6] [])
 .ret))⟩

def F_wire_Plan_Pass : F := ⟨2,[.inl 4,.inl 5],
 (.seq (.reg [.zz 0,.zz 1] [.o 2 (.bx (.k 0)),
 .o 4 (.mv (.c (.l .o 1 []))),
 .o 5 (.mv (.c (.l .o 1 [])))] false [1,2] [2])
 (.seq (.reg [] [.o 14 (.fa 0 (.t 2)),
 .o 15 (.ld false 1 .cp (.k 14)),
 .o 16 (.ms 1 8 (.i .i64 0) (.t 15) (.t 15)),
 .o 6 (.mv (.k 16))] false [1,2,6] [2,6])
 (.seq (.reg [.thaw 6] [.o 17 (.mv (.t 6)),
 .o 18 (.mv (.k 1)),
 .o 19 (.cpy 1 (.k 17) (.k 18))] false [2,6] [2,6])
 (.seq (.reg [] [.o 7 (.mv (.c (.l .o 1 []))),
 .o 8 (.mv (.c (.l .o 1 [])))] false [2,6,7,8] [2,6])
 (.seq (.seq (.reg [] [.o 20 (.fa 1 (.t 2)),
 .o 21 (.ld false 1 .cp (.k 20)),
 .o 22 (.len false (.t 21)),
 .o 23 (.mv (.c (.i .i64 0)))] false [2,6,7,8,21,22,23] [2,6])
 (.blk 0 (.loop (.seq (.reg [] [.o 24 (.bin .lss (.t 23) (.t 22))] false [2,6,7,8,21,22,23,24] [2,6])
 (.seq (.cond 24 .skip
 (.exit 0))
 (.seq (.blk 1 (.seq (.reg [] [.o 25 (.ia 2 none (.t 21) (.t 23)),
 .o 26 (.ld true 2 .cp (.k 25)),
 .o 10 (.al ([.i .i64 0,.i .i64 0])),
 .s (.st 2 (.t 10) (.k 26))] false [2,6,7,8,10,21,22,23] [2,6,10])
 (.seq (.reg [.thaw 6] [.o 27 (.mv (.t 6)),
 .u 28 (.fa 0 (.t 10)) [0] 0,
 .u 29 (.ld false 1 .cp (.k 28)) [0] 0,
 .o 30 (.ia 1 none (.k 27) (.k 29)),
 .o 31 (.ld false 1 .cp (.k 30)),
 .u 32 (.mv (.t 6)) [0,1,2,3,4] 0,
 .u 33 (.fa 1 (.t 10)) [0,1,2,3,4,5] 0,
 .u 34 (.ld false 1 .cp (.k 33)) [0,1,2,3,4,5] 0,
 .u 35 (.ia 1 none (.k 32) (.k 34)) [0,1,2,3,4] 0,
 .u 36 (.ld false 1 .cp (.k 35)) [0,1,2,3,4] 0,
 .o 37 (.bin .add (.k 31) (.k 36)),
 .o 11 (.mv (.k 37))] true [2,6,7,8,10,11,21,22,23] [2,6,10])
 (.seq (.reg [] [.o 38 (.mv (.k 7)),
 .o 39 (.mv (.t 11)),
 .o 40 (.bs 1 1 (.i .i64 0) [(0,.k 39)]),
 .z 41 (.app 1 8 (.k 38) (.k 40)) 1,
 .o 7 (.mv (.k 41))] false [2,6,7,8,10,11,21,22,23] [2,6,10])
 (.reg [.thaw 6] [.o 42 (.mv (.t 6)),
 .u 43 (.fa 0 (.t 10)) [0] 0,
 .u 44 (.ld false 1 .cp (.k 43)) [0] 0,
 .u 45 (.mv (.t 6)) [0,1,2] 0,
 .u 46 (.fa 1 (.t 10)) [0,1,2,3] 0,
 .u 47 (.ld false 1 .cp (.k 46)) [0,1,2,3] 0,
 .u 48 (.mv (.t 11)) [0,1,2,3,4,5] 0,
 .u 49 (.mv (.t 11)) [0,1,2,3,4,5,6] 0,
 .u 50 (.bin .quo (.k 49) (.c (.i .i64 2))) [0,1,2,3,4,5,6] 0,
 .u 51 (.bin .sub (.k 48) (.k 50)) [0,1,2,3,4,5] 0,
 .u 52 (.mv (.t 11)) [0,1,2,3,4,5,6,7,8,9] 0,
 .u 53 (.bin .quo (.k 52) (.c (.i .i64 2))) [0,1,2,3,4,5,6,7,8,9] 0,
 .u 54 (.ia 1 none (.k 42) (.k 44)) [3,4,5,10,11] 0,
 ⟨none,none,.st 1 (.k 54) (.k 51),[3,4,5,10,11],0⟩,
 .o 55 (.ia 1 none (.k 45) (.k 47)),
 .s (.st 1 (.k 55) (.k 53))] true [2,6,7,8,21,22,23] [2,6])))))
 (.reg [] [.o 56 (.bin .add (.k 23) (.c (.i .i64 1))),
 .o 23 (.mv (.k 56))] false [2,6,7,8,21,22,23] [2,6])))))))
 (.seq (.seq (.reg [] [.o 57 (.fa 2 (.k 2)),
 .o 58 (.ld false 1 .tk (.k 57)),
 .o 59 (.len false (.t 58)),
 .o 60 (.mv (.c (.i .i64 0)))] false [6,7,8,58,59,60] [6])
 (.blk 2 (.loop (.seq (.reg [] [.o 61 (.bin .lss (.t 60) (.t 59))] false [6,7,8,58,59,60,61] [6])
 (.seq (.cond 61 .skip
 (.exit 2))
 (.seq (.blk 3 (.seq (.reg [] [.o 62 (.ia 1 none (.t 58) (.t 60)),
 .o 63 (.ld false 1 .cp (.k 62)),
 .o 13 (.mv (.k 63))] false [6,7,8,13,58,59,60] [6])
 (.reg [.thaw 6] [.o 64 (.mv (.k 8)),
 .o 65 (.mv (.t 6)),
 .o 66 (.mv (.k 13)),
 .o 67 (.ia 1 none (.k 65) (.k 66)),
 .o 68 (.ld false 1 .cp (.k 67)),
 .o 69 (.bs 1 1 (.i .i64 0) [(0,.k 68)]),
 .z 70 (.app 1 8 (.k 64) (.k 69)) 1,
 .o 8 (.mv (.k 70))] false [6,7,8,58,59,60] [6])))
 (.reg [] [.o 71 (.bin .add (.k 60) (.c (.i .i64 1))),
 .o 60 (.mv (.k 71))] false [6,7,8,58,59,60] [6])))))))
 (.seq (.reg [] [.o 72 (.mv (.k 7)),
 .o 73 (.mv (.k 8)),
 .o 4 (.mv (.k 72)),
 .o 5 (.mv (.k 73))] false [4,5] [])
 .ret)))))))⟩

def F_wire_Plan_merge : F := ⟨3,[.inl 6],
 (.seq (.reg [.zz 1,.zz 2] [.o 6 (.mv (.c (.l .o 1 [])))] false [0,1,2] [])
 (.seq (.seq (.reg [] [.o 11 (.mv (.t 1)),
 .o 12 (.len false (.k 11)),
 .o 13 (.bin .eql (.k 12) (.c (.i .i64 1)))] false [0,1,2,13] [])
 (.cond 13 (.seq (.reg [] [.o 14 (.mv (.t 0)),
 .u 15 (.mv (.t 0)) [0] 0,
 .u 16 (.nc (.k 15)) [0] 0,
 .u 17 (.fa 1 (.k 16)) [0] 0,
 .u 18 (.ld false 1 .tk (.k 17)) [0] 0,
 .u 19 (.mv (.t 1)) [0,1,2,3,4] 0,
 .u 20 (.ia 1 none (.k 19) (.c (.i .i64 0))) [0,1,2,3,4] 0,
 .u 21 (.ld false 1 .cp (.k 20)) [0,1,2,3,4] 0,
 .u 22 (.mv (.t 2)) [0,1,2,3,4,5,6,7] 0,
 .u 23 (.ia 1 none (.k 22) (.c (.i .i64 0))) [0,1,2,3,4,5,6,7] 0,
 .u 24 (.ld false 1 .cp (.k 23)) [0,1,2,3,4,5,6,7] 0,
 .u 25 (.bd ([.i .i64 0,.i .i64 0]) [(0,1,.k 21),(1,1,.k 24)]) [0,1,2,3,4] 0,
 .u 26 (.bs 2 1 (.a ([.i .i64 0,.i .i64 0])) [(0,.k 25)]) [0,1,2,3,4] 0,
 .u 27 (.app 2 16 (.k 18) (.k 26)) [0] 1,
 .o 28 (.nc (.k 14)),
 .o 29 (.fa 1 (.k 28)),
 .s (.st 1 (.k 29) (.k 27))] true [1,2] [])
 (.seq (.reg [] [.o 30 (.mv (.k 1)),
 .o 31 (.ia 1 none (.k 30) (.c (.i .i64 0))),
 .o 32 (.ld false 1 .cp (.k 31)),
 .u 33 (.mv (.k 2)) [0,1,2] 0,
 .u 34 (.ia 1 none (.k 33) (.c (.i .i64 0))) [0,1,2] 0,
 .u 35 (.ld false 1 .cp (.k 34)) [0,1,2] 0,
 .z 36 (.bs 1 2 (.i .i64 0) [(0,.k 32),(1,.k 35)]) 1,
 .o 6 (.mv (.k 36))] true [6] [])
 .ret))
 .skip))
 (.seq (.reg [] [.o 37 (.mv (.t 0)),
 .z 38 (.mv (.t 1)) 2,
 .z 39 (.call n_wire_every [.k 38,.c (.i .i64 0)]) 2,
 .z 40 (.mv (.t 2)) 2,
 .z 41 (.call n_wire_every [.k 40,.c (.i .i64 1)]) 2,
 .o 42 (.call n_wire_Plan_merge [.k 37,.k 39,.k 41]),
 .o 7 (.mv (.k 42))] false [0,1,2,7] [])
 (.seq (.reg [] [.o 43 (.mv (.t 0)),
 .z 44 (.mv (.k 1)) 2,
 .z 45 (.call n_wire_every [.k 44,.c (.i .i64 1)]) 2,
 .z 46 (.mv (.k 2)) 2,
 .z 47 (.call n_wire_every [.k 46,.c (.i .i64 0)]) 2,
 .o 48 (.call n_wire_Plan_merge [.k 43,.k 45,.k 47]),
 .o 8 (.mv (.k 48))] false [0,7,8] [])
 (.seq (.reg [] [.o 9 (.mv (.c (.l .o 1 [])))] false [0,7,8,9] [])
 (.seq (.seq (.reg [] [.o 49 (.mv (.t 7)),
 .o 50 (.len false (.k 49)),
 .o 51 (.mv (.c (.i .i64 0)))] false [0,7,8,9,50,51] [])
 (.blk 0 (.loop (.seq (.reg [] [.o 52 (.bin .lss (.t 51) (.t 50))] false [0,7,8,9,50,51,52] [])
 (.seq (.cond 52 .skip
 (.exit 0))
 (.seq (.blk 1 (.seq (.reg [] [.o 53 (.mv (.t 51)),
 .o 10 (.mv (.k 53))] false [0,7,8,9,10,50,51] [])
 (.seq (.reg [] [.o 54 (.mv (.t 0)),
 .u 55 (.mv (.t 0)) [0] 0,
 .u 56 (.nc (.k 55)) [0] 0,
 .u 57 (.fa 1 (.k 56)) [0] 0,
 .u 58 (.ld false 1 .tk (.k 57)) [0] 0,
 .u 59 (.mv (.t 7)) [0,1,2,3,4] 0,
 .u 60 (.mv (.t 10)) [0,1,2,3,4,5] 0,
 .u 61 (.ia 1 none (.k 59) (.k 60)) [0,1,2,3,4] 0,
 .u 62 (.ld false 1 .cp (.k 61)) [0,1,2,3,4] 0,
 .u 63 (.mv (.t 8)) [0,1,2,3,4,5,6,7,8] 0,
 .u 64 (.mv (.t 10)) [0,1,2,3,4,5,6,7,8,9] 0,
 .u 65 (.ia 1 none (.k 63) (.k 64)) [0,1,2,3,4,5,6,7,8] 0,
 .u 66 (.ld false 1 .cp (.k 65)) [0,1,2,3,4,5,6,7,8] 0,
 .u 67 (.bd ([.i .i64 0,.i .i64 0]) [(0,1,.k 62),(1,1,.k 66)]) [0,1,2,3,4] 0,
 .u 68 (.bs 2 1 (.a ([.i .i64 0,.i .i64 0])) [(0,.k 67)]) [0,1,2,3,4] 0,
 .u 69 (.app 2 16 (.k 58) (.k 68)) [0] 1,
 .o 70 (.nc (.k 54)),
 .o 71 (.fa 1 (.k 70)),
 .s (.st 1 (.k 71) (.k 69))] true [0,7,8,9,10,50,51] [])
 (.reg [] [.o 72 (.mv (.k 9)),
 .u 73 (.mv (.t 7)) [0] 0,
 .u 74 (.mv (.t 10)) [0,1] 0,
 .u 75 (.ia 1 none (.k 73) (.k 74)) [0] 0,
 .u 76 (.ld false 1 .cp (.k 75)) [0] 0,
 .u 77 (.mv (.t 8)) [0,1,2,3,4] 0,
 .u 78 (.mv (.t 10)) [0,1,2,3,4,5] 0,
 .u 79 (.ia 1 none (.k 77) (.k 78)) [0,1,2,3,4] 0,
 .u 80 (.ld false 1 .cp (.k 79)) [0,1,2,3,4] 0,
 .u 81 (.bs 1 2 (.i .i64 0) [(0,.k 76),(1,.k 80)]) [0] 0,
 .z 82 (.app 1 8 (.k 72) (.k 81)) 1,
 .o 9 (.mv (.k 82))] true [0,7,8,9,50,51] []))))
 (.reg [] [.o 83 (.bin .add (.k 51) (.c (.i .i64 1))),
 .o 51 (.mv (.k 83))] false [0,7,8,9,50,51] [])))))))
 (.seq (.reg [] [.o 84 (.mv (.k 9)),
 .o 6 (.mv (.k 84))] false [6] [])
 .ret)))))))⟩

def F_slices_xorshift_Next : F := ⟨1,[.inl 2],
 (.seq (.reg [] [.o 2 (.mv (.c (.i .u64 0)))] false [0] [])
 (.seq (.reg [] [.o 3 (.mv (.t 0)),
 .o 4 (.nc (.t 3)),
 .o 5 (.ld false 1 .cp (.k 4)),
 .u 6 (.mv (.t 0)) [0,1,2] 0,
 .u 7 (.nc (.k 6)) [0,1,2] 0,
 .u 8 (.ld false 1 .cp (.k 7)) [0,1,2] 0,
 .u 9 (.bin .shl (.k 8) (.c (.i .u64 13))) [0,1,2] 0,
 .o 10 (.bin .xor (.k 5) (.k 9)),
 .o 11 (.nc (.t 3)),
 .s (.st 1 (.k 11) (.k 10))] true [0] [])
 (.seq (.reg [] [.o 12 (.mv (.t 0)),
 .o 13 (.nc (.t 12)),
 .o 14 (.ld false 1 .cp (.k 13)),
 .u 15 (.mv (.t 0)) [0,1,2] 0,
 .u 16 (.nc (.k 15)) [0,1,2] 0,
 .u 17 (.ld false 1 .cp (.k 16)) [0,1,2] 0,
 .u 18 (.bin .shr (.k 17) (.c (.i .u64 7))) [0,1,2] 0,
 .o 19 (.bin .xor (.k 14) (.k 18)),
 .o 20 (.nc (.t 12)),
 .s (.st 1 (.k 20) (.k 19))] true [0] [])
 (.seq (.reg [] [.o 21 (.mv (.t 0)),
 .o 22 (.nc (.t 21)),
 .o 23 (.ld false 1 .cp (.k 22)),
 .u 24 (.mv (.t 0)) [0,1,2] 0,
 .u 25 (.nc (.k 24)) [0,1,2] 0,
 .u 26 (.ld false 1 .cp (.k 25)) [0,1,2] 0,
 .u 27 (.bin .shl (.k 26) (.c (.i .u64 17))) [0,1,2] 0,
 .o 28 (.bin .xor (.k 23) (.k 27)),
 .o 29 (.nc (.t 21)),
 .s (.st 1 (.k 29) (.k 28))] true [0] [])
 (.seq (.reg [] [.o 30 (.mv (.k 0)),
 .o 31 (.nc (.k 30)),
 .o 32 (.ld false 1 .cp (.k 31)),
 .o 2 (.mv (.k 32))] false [2] [])
 .ret)))))⟩

def F_wire_every : F := ⟨2,[.inl 4],
 (.seq (.reg [.zz 0] [.o 4 (.mv (.c (.l .o 1 [])))] false [0,1] [])
 (.seq (.reg [] [.o 5 (.mv (.c (.l .o 1 [])))] false [0,1,5] [])
 (.seq (.seq (.reg [] [.o 7 (.mv (.k 1)),
 .o 6 (.mv (.k 7))] false [0,5,6] [])
 (.blk 0 (.loop (.seq (.seq (.reg [] [.o 8 (.mv (.t 6)),
 .o 9 (.mv (.t 0)),
 .o 10 (.len false (.k 9)),
 .o 11 (.bin .lss (.k 8) (.k 10))] false [0,5,6,11] [])
 (.cond 11 .skip
 (.exit 0)))
 (.seq (.blk 1 (.reg [] [.o 14 (.mv (.k 5)),
 .o 15 (.mv (.t 0)),
 .o 16 (.mv (.t 6)),
 .o 17 (.ia 1 none (.k 15) (.k 16)),
 .o 18 (.ld false 1 .cp (.k 17)),
 .o 19 (.bs 1 1 (.i .i64 0) [(0,.k 18)]),
 .z 20 (.app 1 8 (.k 14) (.k 19)) 1,
 .o 5 (.mv (.k 20))] false [0,5,6] []))
 (.reg [] [.o 12 (.mv (.k 6)),
 .o 13 (.bin .add (.k 12) (.c (.i .i64 2))),
 .o 6 (.mv (.k 13))] false [0,5,6] []))))))
 (.seq (.reg [] [.o 21 (.mv (.k 5)),
 .o 4 (.mv (.k 21))] false [4] [])
 .ret))))⟩

def F_pile_items_Len : F := ⟨1,[.inl 2],
 (.seq (.reg [.zz 0] [.o 2 (.mv (.c (.i .i64 0)))] false [0] [])
 (.seq (.reg [] [.o 3 (.mv (.k 0)),
 .o 4 (.len false (.k 3)),
 .o 2 (.mv (.k 4))] false [2] [])
 .ret))⟩

def F_pile_items_Less : F := ⟨3,[.inl 6],
 (.seq (.reg [.zz 0] [.o 6 (.mv (.c (.b false)))] false [0,1,2] [])
 (.seq (.reg [] [.o 7 (.mv (.t 0)),
 .u 8 (.mv (.k 1)) [0] 0,
 .o 9 (.ia 2 none (.k 7) (.k 8)),
 .o 10 (.ld true 2 .cp (.k 9)),
 .u 11 (.mv (.t 0)) [0,1,2,3] 0,
 .u 12 (.mv (.k 2)) [0,1,2,3,4] 0,
 .u 13 (.ia 2 none (.k 11) (.k 12)) [0,1,2,3] 0,
 .u 14 (.ld true 2 .cp (.k 13)) [0,1,2,3] 0,
 .o 15 (.call n_pile_Item_Cmp [.k 10,.k 14]),
 .o 16 (.bin .lss (.k 15) (.c (.i .i64 0))),
 .o 6 (.mv (.k 16))] true [6] [])
 .ret))⟩

def F_pile_items_Swap : F := ⟨3,[],
 (.reg [.thaw 0] [.o 6 (.mv (.t 0)),
 .u 7 (.mv (.t 1)) [0] 0,
 .u 8 (.mv (.t 0)) [0,1] 0,
 .u 9 (.mv (.t 2)) [0,1,2] 0,
 .u 10 (.mv (.t 0)) [0,1,2,3] 0,
 .u 11 (.mv (.t 2)) [0,1,2,3,4] 0,
 .u 12 (.ia 2 none (.k 10) (.k 11)) [0,1,2,3] 0,
 .u 13 (.ld true 2 .cp (.k 12)) [0,1,2,3] 0,
 .u 14 (.mv (.t 0)) [0,1,2,3,4,5,6,7] 0,
 .u 15 (.mv (.t 1)) [0,1,2,3,4,5,6,7,8] 0,
 .u 16 (.ia 2 none (.k 14) (.k 15)) [0,1,2,3,4,5,6,7] 0,
 .u 17 (.ld true 2 .cp (.k 16)) [0,1,2,3,4,5,6,7] 0,
 .u 18 (.ia 2 none (.k 6) (.k 7)) [2,3] 0,
 ⟨none,none,.st 2 (.k 18) (.k 13),[2,3],0⟩,
 .o 19 (.ia 2 none (.k 8) (.k 9)),
 .s (.st 2 (.k 19) (.k 17))] true [] [])⟩

def F_pile_items_Pop : F := ⟨1,[.inl 2],
 (.seq (.reg [] [.o 2 (.mv (.c (.nili)))] false [0] [])
 (.seq (.reg [] [.o 5 (.mv (.t 0)),
 .o 6 (.nc (.k 5)),
 .z 7 (.lda 1 (.k 6)) 1,
 .o 8 (.len false (.k 7)),
 .o 9 (.bin .sub (.k 8) (.c (.i .i64 1))),
 .o 3 (.mv (.k 9))] false [0,3] [])
 (.seq (.reg [] [.o 10 (.mv (.t 0)),
 .o 11 (.nc (.k 10)),
 .z 12 (.lda 1 (.k 11)) 1,
 .o 13 (.mv (.t 3)),
 .o 14 (.ia 2 none (.k 12) (.k 13)),
 .o 15 (.ld true 2 .cp (.k 14)),
 .o 4 (.al ([.f .f64 0,.i .i64 0])),
 .s (.st 2 (.t 4) (.k 15))] false [0,3,4] [4])
 (.seq (.reg [] [.o 16 (.mv (.t 0)),
 .o 17 (.mv (.k 0)),
 .o 18 (.nc (.k 17)),
 .o 19 (.ld false 1 .tk (.k 18)),
 .o 20 (.mv (.k 3)),
 .o 21 (.sl 2 (.k 19) none (some (.k 20)) none),
 .o 22 (.nc (.k 16)),
 .s (.st 1 (.k 22) (.k 21))] false [4] [4])
 (.seq (.reg [] [.o 23 (.ld true 2 .cp (.k 4)),
 .o 24 (.mi t_pile_Item (.k 23)),
 .o 2 (.mv (.k 24))] false [2] [])
 .ret)))))⟩

def F_pile_items_Len_q : F := ⟨1,[.inl 2],
 (.seq (.reg [] [.o 2 (.mv (.c (.i .i64 0)))] false [0] [])
 (.seq (.reg [] [.o 3 (.mv (.k 0)),
 .o 4 (.len false (.k 3)),
 .o 2 (.mv (.k 4))] false [2] [])
 .ret))⟩

def F_pile_items_Less_q : F := ⟨3,[.inl 6],
 (.seq (.reg [] [.o 6 (.mv (.c (.b false)))] false [0,1,2] [])
 (.seq (.reg [] [.o 7 (.mv (.t 0)),
 .u 8 (.mv (.k 1)) [0] 0,
 .o 9 (.ia 2 none (.k 7) (.k 8)),
 .o 10 (.ld true 2 .cp (.k 9)),
 .u 11 (.mv (.t 0)) [0,1,2,3] 0,
 .u 12 (.mv (.k 2)) [0,1,2,3,4] 0,
 .u 13 (.ia 2 none (.k 11) (.k 12)) [0,1,2,3] 0,
 .u 14 (.ld true 2 .cp (.k 13)) [0,1,2,3] 0,
 .o 15 (.call n_pile_Item_Cmp [.k 10,.k 14]),
 .o 16 (.bin .lss (.k 15) (.c (.i .i64 0))),
 .o 6 (.mv (.k 16))] true [6] [])
 .ret))⟩

def F_pile_items_Swap_q : F := ⟨3,[],
 (.reg [] [.o 6 (.mv (.t 0)),
 .u 7 (.mv (.t 1)) [0] 0,
 .u 8 (.mv (.t 0)) [0,1] 0,
 .u 9 (.mv (.t 2)) [0,1,2] 0,
 .u 10 (.mv (.t 0)) [0,1,2,3] 0,
 .u 11 (.mv (.t 2)) [0,1,2,3,4] 0,
 .u 12 (.ia 2 none (.k 10) (.k 11)) [0,1,2,3] 0,
 .u 13 (.ld true 2 .cp (.k 12)) [0,1,2,3] 0,
 .u 14 (.mv (.t 0)) [0,1,2,3,4,5,6,7] 0,
 .u 15 (.mv (.t 1)) [0,1,2,3,4,5,6,7,8] 0,
 .u 16 (.ia 2 none (.k 14) (.k 15)) [0,1,2,3,4,5,6,7] 0,
 .u 17 (.ld true 2 .cp (.k 16)) [0,1,2,3,4,5,6,7] 0,
 .u 18 (.ia 2 none (.k 6) (.k 7)) [2,3] 0,
 ⟨none,none,.st 2 (.k 18) (.k 13),[2,3],0⟩,
 .o 19 (.ia 2 none (.k 8) (.k 9)),
 .s (.st 2 (.k 19) (.k 17))] true [] [])⟩

end Go.AM

namespace Go.Proofs
open Go.Shelf
def Try.sortV_ren : Go.Shelf.Ren := ⟨fun | 6 => 95 | 15 => 110 | 14 => 109 | 28 => 124 | 29 => 125 | 20 => 116 | 21 => 117 | 22 => 118 | 23 => 119 | 24 => 120 | 25 => 121 | 26 => 122 | 27 => 123 | 46 => 127 | 47 => 128 | 48 => 129 | 49 => 130 | 50 => 131 | 57 => 133 | n => n, fun | 22 => 149 | 24 => 121 | 25 => 191 | 3 => 3 | 39 => 216 | 0 => 0 | 53 => 233 | 55 => 23 | 4 => 4 | 46 => 226 | 45 => 225 | 50 => 230 | 5 => 5 | 9 => 9 | 66 => 239 | 70 => 243 | 76 => 246 | 77 => 29 | n => n, fun | n => n⟩
theorem Try.sortV : Go.Proofs.SlLaysF0.n6 Try.prog Try.sortV_ren := {
 mixed := by kernel_rfl
 f6 := ⟨Try.f95.name, by decide, Try.func95.trans (congrArg some (by kernel_rfl))⟩
 f14 := ⟨Try.f109.name, by decide, Try.func109.trans (congrArg some (by kernel_rfl))⟩
 f15 := Try.func110.trans (congrArg some (by kernel_rfl))
 f20 := ⟨Try.f116.name, by decide, Try.func116.trans (congrArg some (by kernel_rfl))⟩
 f21 := ⟨Try.f117.name, by decide, Try.func117.trans (congrArg some (by kernel_rfl))⟩
 f22 := ⟨Try.f118.name, by decide, Try.func118.trans (congrArg some (by kernel_rfl))⟩
 f23 := ⟨Try.f119.name, by decide, Try.func119.trans (congrArg some (by kernel_rfl))⟩
 f24 := ⟨Try.f120.name, by decide, Try.func120.trans (congrArg some (by kernel_rfl))⟩
 f25 := ⟨Try.f121.name, by decide, Try.func121.trans (congrArg some (by kernel_rfl))⟩
 f26 := ⟨Try.f122.name, by decide, Try.func122.trans (congrArg some (by kernel_rfl))⟩
 f27 := ⟨Try.f123.name, by decide, Try.func123.trans (congrArg some (by kernel_rfl))⟩
 f28 := Try.func124.trans (congrArg some (by kernel_rfl))
 f29 := Try.func125.trans (congrArg some (by kernel_rfl))
 f46 := ⟨Try.f127.name, by decide, Try.func127.trans (congrArg some (by kernel_rfl))⟩
 f47 := Try.func128.trans (congrArg some (by kernel_rfl))
 f48 := Try.func129.trans (congrArg some (by kernel_rfl))
 f49 := ⟨Try.f130.name, by decide, Try.func130.trans (congrArg some (by kernel_rfl))⟩
 f50 := ⟨Try.f131.name, by decide, Try.func131.trans (congrArg some (by kernel_rfl))⟩
 f57 := ⟨Try.f133.name, by decide, Try.func133.trans (congrArg some (by kernel_rfl))⟩
 t0 := Try.underlying0
 a0 := Try.isAgg0
 z0 := Try.sizeOf0
 v0 := Try.zeroValue0
 t3 := Try.underlying3
 a3 := Try.isAgg3
 z3 := Try.sizeOf3
 v3 := Try.zeroValue3
 t4 := Try.underlying4
 a4 := Try.isAgg4
 z4 := Try.sizeOf4
 v4 := Try.zeroValue4
 t5 := Try.underlying5
 a5 := Try.isAgg5
 z5 := Try.sizeOf5
 v5 := Try.zeroValue5
 t9 := Try.underlying9
 a9 := Try.isAgg9
 z9 := Try.sizeOf9
 v9 := Try.zeroValue9
 t22 := Try.underlying149
 a22 := Try.isAgg149
 z22 := Try.sizeOf149
 v22 := Try.zeroValue149
 t25 := Try.underlying191
 a25 := Try.isAgg191
 z25 := Try.sizeOf191
 v25 := Try.zeroValue191
 t39 := Try.underlying216
 a39 := Try.isAgg216
 z39 := Try.sizeOf216
 v39 := Try.zeroValue216
 t45 := Try.underlying225
 a45 := Try.isAgg225
 z45 := Try.sizeOf225
 v45 := Try.zeroValue225
 t46 := Try.underlying226
 a46 := Try.isAgg226
 z46 := Try.sizeOf226
 v46 := Try.zeroValue226
 t50 := Try.underlying230
 a50 := Try.isAgg230
 z50 := Try.sizeOf230
 v50 := Try.zeroValue230
 t53 := Try.underlying233
 a53 := Try.isAgg233
 z53 := Try.sizeOf233
 v53 := Try.zeroValue233
 t55 := Try.underlying23
 a55 := Try.isAgg23
 z55 := Try.sizeOf23
 v55 := Try.zeroValue23
 t66 := Try.underlying239
 a66 := Try.isAgg239
 z66 := Try.sizeOf239
 v66 := Try.zeroValue239
 t70 := Try.underlying243
 a70 := Try.isAgg243
 z70 := Try.sizeOf243
 v70 := Try.zeroValue243
 t76 := Try.underlying246
 a76 := Try.isAgg246
 z76 := Try.sizeOf246
 v76 := Try.zeroValue246
 t77 := Try.underlying29
 a77 := Try.isAgg29
 z77 := Try.sizeOf29
 v77 := Try.zeroValue29 }
end Go.Proofs
namespace Go.AM
open Go.Proofs Go.Shelf Go.RowKit Go.Lib Go.Sort
def verD : D → Int
 | .a (.i .u64 v :: _) => v
 | _ => -1
def okV (d : D) : Bool := decide (0 ≤ verD d) && decide (verD d < 4611686018427387904)
def leVer (a b : D) : Bool := decide (verD a ≤ verD b)
def srtV (xs : List D) : Option (List D) := if xs.all okV = true ∧ (xs.map verD).Nodup ∧ xs.length < 4611686018427387904 then some (xs.mergeSort leVer) else none
set_option maxHeartbeats 1000000 in
theorem srt_cmp (x y : Int) (hx : 0 ≤ x ∧ x < 4611686018427387904) (hy : 0 ≤ y ∧ y < 4611686018427387904) (a a' b b' : Value) (ha : a.oneCell' = true) (ha' : a'.oneCell' = true) (hb : b.oneCell' = true) (hb' : b'.oneCell' = true) (W : World) :
    Calls Try.prog 96 #[.agg #[.int .u64 x, a, a'], .agg #[.int .u64 y, b, b']] W fun e w' => e = .returned (.int .i64 (x - y)) ∧ ∃ q os', w' = grow (W.drewN q) os' := by
 have w1 : IntKind.i64.wrap x = x := by simp [IntKind.wrap, IntKind.signed, IntKind.bits]; omega
 have w2 : IntKind.i64.wrap y = y := by simp [IntKind.wrap, IntKind.signed, IntKind.bits]; omega
 have w3 : IntKind.i64.wrap (x - y) = x - y := by simp [IntKind.wrap, IntKind.signed, IntKind.bits]; omega
 go_enter Try.func96, Try.ntmps96
 go_wp2
 go_ret
 exact ⟨rfl, 0, _, by rw [alloc_eq_grow, alloc_eq_grow, grow_grow]; rfl⟩
def srtL : FuncId → FuncId → Nat → List D → Option (List D) := fun f g sz xs => if f = 95 ∧ g = 96 ∧ sz = 3 then srtV xs else none
theorem srt_row {im : Nat → Nat → Option Value} {gl : Nat → Option Nat} {w : World} {d : D} {us : List Value} {F : List Nat} (h : RVs im gl w d.cells us F) (ho : okV d = true) (hl : us.length = 3) :
    ∃ a b, us = [.int .u64 (verD d), a, b] ∧ 0 ≤ verD d ∧ verD d < 4611686018427387904 := by
 obtain ⟨h0, h1⟩ : 0 ≤ verD d ∧ verD d < 4611686018427387904 := by simpa [okV] using ho
 have hd : ∃ v r, d = .a (.i .u64 v :: r) := by
  unfold verD at h0; split at h0
  ·exact ⟨_, _, rfl⟩
  ·omega
 obtain ⟨v, r, rfl⟩ := hd
 have h' : RVs im gl w (.i .u64 v :: r) us F := h
 obtain ⟨u, us', A, B, rfl, rfl, h2, _⟩ := RVs.cons_inv h'
 cases h2
 match us', hl with
 | [a, b], _ => exact ⟨a, b, rfl, h0, h1⟩
theorem flat_get {k : Nat} (hk : 0 < k) : ∀ (rows : List (List Value)), (∀ r ∈ rows, r.length = k) → ∀ t : Nat, rows.flatten[t]? = (rows[t / k]?).bind (·[t % k]?)
 | [], _, t => by simp
 | r :: rows, h, t => by
  have hr : r.length = k := h r (by simp)
  rw [List.flatten_cons]
  by_cases ht : t < k
  ·rw [List.getElem?_append_left (by omega), Nat.div_eq_of_lt ht, Nat.mod_eq_of_lt ht]; simp
  ·have e1 : t / k = (t - k) / k + 1 := by rw [Nat.div_eq_sub_div hk (by omega)]
   have e2 : t % k = (t - k) % k := by rw [Nat.mod_eq_sub_mod (by omega)]
   rw [List.getElem?_append_right (by omega), hr, flat_get hk rows (fun r hr => h r (by simp [hr])), e1, e2]
   simp
theorem flat_len {k : Nat} : ∀ (rows : List (List Value)), (∀ r ∈ rows, r.length = k) → rows.flatten.length = rows.length * k
 | [], _ => by simp
 | r :: rows, h => by
  rw [List.flatten_cons, List.length_append, flat_len rows (fun r hr => h r (by simp [hr])), h r (by simp), List.length_cons, Nat.add_mul]; omega
theorem flatK_get {n : Nat} [Inhabited (Fin n)] (enc : Fin n → List Value) (k : Nat) (hk : 0 < k) (he : ∀ x, (enc x).length = k) (l : List (Fin n)) (t : Nat) (ht : t < l.length * k) :
    (flatK enc k l.toArray)[t]? = ((l.map enc).flatten)[t]? := by
 have hdiv : t / k < l.length := (Nat.div_lt_iff_lt_mul hk).2 ht
 have hmod : t % k < k := Nat.mod_lt _ hk
 have h1 : t < (flatK enc k l.toArray).size := by simpa using ht
 have h2 := get_flatK enc k l.toArray t (by simpa using ht)
 rw [flat_get hk (l.map enc) (fun r hr => by obtain ⟨x, _, rfl⟩ := List.mem_map.1 hr; exact he x) t]
 rw [Array.getElem?_eq_getElem h1]
 rw [getElem!_pos _ t h1] at h2
 rw [h2, List.getElem?_map, List.getElem?_eq_getElem hdiv]
 have e : (l.toArray)[t / k]! = l[t / k] := by rw [getElem!_pos l.toArray (t / k) (by simpa using hdiv)]; simp
 simp only [Option.map_some, Option.bind_some, e]
 have hl : t % k < (enc l[t / k]).length := by rw [he]; exact hmod
 rw [List.getElem?_eq_getElem hl, getElem!_pos (enc l[t / k]) (t % k) hl]
theorem srtF : SrtOK Try.prog srtL := by
 intro f g sz xs ys h
 unfold srtL at h
 split at h
 ·rename_i hc
  obtain ⟨rfl, rfl, rfl⟩ := hc
  unfold srtV at h
  split at h
  ·rename_i hc
   obtain ⟨hall, hnd, hlen62⟩ := hc
   cases h
   have eS : Enters Try.prog 95 := Try.sortV.f6.enters rfl
   have eG : ∀ args w, (callFunc 96 args).run Try.prog w = .ok (.enter 96 args) w := enters_of Try.func96 (by kernel_rfl) rfl
   refine ⟨eS, fun e => by subst e; simp, fun e p cap w => ?_, ?_⟩
   ·subst e; exact AnyF.slices_SortFunc_none Try.sortV p cap _ w
   ·intro zs hz hne hrow
    subst hz
    have hn0 : 0 < zs.length := List.length_pos_iff.2 hne
    haveI : Inhabited (Fin zs.length) := ⟨⟨0, hn0⟩⟩
    have hmem : ∀ i : Fin zs.length, zs.get i ∈ zs := fun i => List.get_mem zs i
    have hr : ∀ i : Fin zs.length, ∃ a b, (zs.get i).2.1 = [.int .u64 (verD (zs.get i).1), a, b] ∧ 0 ≤ verD (zs.get i).1 ∧ verD (zs.get i).1 < 4611686018427387904 := by
     intro i
     obtain ⟨h1, h2, im, gl, w, h3⟩ := hrow _ (hmem i)
     exact srt_row h3 (List.all_eq_true.1 hall _ (List.mem_map.2 ⟨_, hmem i, rfl⟩)) h1
    obtain ⟨enc, henc⟩ : ∃ enc : Fin zs.length → List Value, enc = fun i => (zs.get i).2.1 := ⟨_, rfl⟩
    obtain ⟨ver, hver⟩ : ∃ ver : Fin zs.length → Int, ver = fun i => verD (zs.get i).1 := ⟨_, rfl⟩
    have hr' : ∀ i, ∃ a b, enc i = [.int .u64 (ver i), a, b] ∧ 0 ≤ ver i ∧ ver i < 4611686018427387904 := by rw [henc, hver]; exact hr
    have hk : ∀ i, (enc i).length = 3 := by intro i; obtain ⟨a, b, e, _⟩ := hr' i; rw [e]; rfl
    have h1 : ∀ i, ∀ v ∈ enc i, v.oneCell' = true := by rw [henc]; exact fun i => (hrow _ (hmem i)).2.1
    obtain ⟨cf, hcf⟩ : ∃ cf : Fin zs.length → Fin zs.length → Int, cf = fun i j => ver i - ver j := ⟨_, rfl⟩
    have hlt : ∀ i j, ltOf cf i j = decide (ver i < ver j) := by
     intro i j
     unfold ltOf
     rw [hcf]
     simp only [decide_eq_decide]
     omega
    have hO : SWO (ltOf cf) := ⟨fun x => by rw [hlt]; simp, fun x y z h1 h2 => by rw [hlt] at *; simp at *; omega, fun x y z h1 h2 => by rw [hlt] at *; simp at *; omega⟩
    have hT : ∀ i j, ltOf cf i j = false → ltOf cf j i = false → i = j := by
     intro i j h1 h2
     rw [hlt] at h1 h2
     simp only [decide_eq_false_iff_not, Int.not_lt] at h1 h2
     have e : ver i = ver j := by omega
     rw [hver] at e
     have hp := List.pairwise_iff_getElem.1 hnd
     rcases Nat.lt_trichotomy i.val j.val with h | h | h
     ·exact absurd (by simpa using e) (hp i.val j.val (by simp) (by simp) h)
     ·exact Fin.ext h
     ·exact absurd (by simpa using e.symm) (hp j.val i.val (by simp) (by simp) h)
    obtain ⟨sl, hsl⟩ : ∃ sl, sl = (List.finRange zs.length).mergeSort (fun x y => !(ltOf cf) y x) := ⟨_, rfl⟩
    have hslp : List.Perm sl (List.finRange zs.length) := by rw [hsl]; exact List.mergeSort_perm _ _
    have hsll : sl.length = zs.length := by rw [hslp.length_eq]; simp
    have hzg : (List.finRange zs.length).map zs.get = zs := by
     apply List.ext_getElem
     ·simp
     ·intro i h1 h2; simp
    refine ⟨sl.map zs.get, ?_, ?_, ?_⟩
    ·have := hslp.map zs.get
     rwa [hzg] at this
    ·have e : zs.map (·.1) = (List.finRange zs.length).map (fun i => (zs.get i).1) := by
      conv => lhs; rw [← hzg]
      rw [List.map_map]; rfl
     rw [e, hsl, List.map_map]
     refine (List.map_mergeSort (s := leVer) (f := fun i : Fin zs.length => (zs.get i).1) (fun i _ j _ => ?_)).trans rfl
     rw [hlt, hver]
     simp only [leVer]
     rw [← decide_not]
     simp only [decide_eq_decide]
     omega
    ·intro w b o cap c t f' hb hfz hsz hcells
     have hrows : (zs.map (·.2.1)) = (List.finRange zs.length).map enc := by
      conv => lhs; rw [← hzg]
      rw [List.map_map, henc]; rfl
     have hrows' : ((sl.map zs.get).map (·.2.1)) = sl.map enc := by rw [List.map_map, henc]; rfl
     rw [hrows] at hsz hcells
     rw [hrows']
     have hfl : ∀ l : List (Fin zs.length), (l.map enc).flatten.length = l.length * 3 := by
      intro l
      rw [flat_len (k := 3) _ (fun r hr => by obtain ⟨x, _, rfl⟩ := List.mem_map.1 hr; exact hk x)]; simp
     have hbl : b < w.heap.size := by rw [Array.getElem?_eq_some_iff] at hb; exact hb.1
     have hH : HoldsK enc 3 w b o (List.finRange zs.length).toArray := by
      intro j hj
      have hj' : j < (List.finRange zs.length).length * 3 := by simpa using hj
      have e1 := flatK_get enc 3 (by decide) hk (List.finRange zs.length) j hj'
      have hjs : j < (flatK enc 3 (List.finRange zs.length).toArray).size := hj
      rw [Array.getElem?_eq_getElem hjs] at e1
      rw [hfl] at hsz
      refine ⟨?_, hfz _ (by omega)⟩
      have := hcells j _ e1.symm
      rw [cell_of_row _ _ _ _ _ _ hb, getElem!_pos _ j hjs]
      exact this
     have hcmp : CmpLays Try.prog 96 #[] enc 3 cf b o (List.finRange zs.length).toArray.size w := by
      intro m os dk hs x y
      obtain ⟨a1, a2, ea, ha⟩ := hr' x
      obtain ⟨b1, b2, eb, hb'⟩ := hr' y
      have hxa := h1 x
      have hya := h1 y
      rw [ea] at hxa ⊢
      rw [eb] at hya ⊢
      have := srt_cmp (ver x) (ver y) ha hb' a1 a2 b1 b2 (hxa _ (by simp)) (hxa _ (by simp)) (hya _ (by simp)) (hya _ (by simp)) (sortWorldK enc 3 w b o m dk os)
      rw [hcf]
      simpa using this
     have hcon := AnyQ.slices_SortFunc_total Try.sortV 3 (run_isAgg (by kernel_rfl)) (run_sizeOf (by kernel_rfl)) enc hk h1 cf hO 96 #[] b o cap (List.finRange zs.length).toArray w eG hcmp hH hbl (by
      simpa using hlen62) hT
     have hs0 : (List.finRange zs.length).toArray.size = (zs.map (·.1)).length := by simp
     rw [hs0] at hcon
     refine hcon.mono ?_
     rintro e w' ⟨rfl, m, os, rfl⟩
     refine ⟨rfl, ?_⟩
     rw [show (List.finRange zs.length).toArray.toList = List.finRange zs.length from rfl, ← hsl]
     have hF : (flatK enc 3 sl.toArray).size = (sl.map enc).flatten.length := by rw [hfl]; simp
     obtain ⟨Fl, hFl⟩ : ∃ Fl, Fl = flatK enc 3 sl.toArray := ⟨_, rfl⟩
     rw [← hFl] at hF
     have hFg : ∀ j, j < (sl.map enc).flatten.length → Fl[j]? = (sl.map enc).flatten[j]? := by
      intro j hj
      rw [hFl]
      exact flatK_get enc 3 (by decide) hk sl j (by rw [hfl] at hj; exact hj)
     have hW : sortWorldK enc 3 w b o m sl.toArray os = { w with drawn := w.drawn + m, heap := w.heap.modify b (onCells (putCells id o Fl)) ++ os } := by rw [hFl]; rfl
     rw [hW]
     have hlo : o + (sl.map enc).flatten.length ≤ c.size := by rw [hfl] at hsz ⊢; rw [hsll]; simpa using hsz
     refine ⟨rfl, rfl, rfl, by simp, fun x hx hxb => ?_, c, t, f', putCells id o Fl c, hb, ?_, by simp [putCells], fun j => ?_⟩
     ·show (w.heap.modify b (onCells (putCells id o Fl)) ++ os)[x]? = w.heap[x]?
      rw [Array.getElem?_append_left (by simpa using hx), Array.getElem?_modify, if_neg (fun e => hxb e.symm)]
     ·show (w.heap.modify b (onCells (putCells id o Fl)) ++ os)[b]? = _
      rw [Array.getElem?_append_left (by simpa using hbl), Array.getElem?_modify, if_pos rfl, hb]
      rfl
     ·unfold putCells
      rw [Array.getElem?_mapIdx]
      by_cases hj : o ≤ j ∧ j < o + (sl.map enc).flatten.length
      ·have hjc : j < c.size := by omega
       rw [if_pos hj, Array.getElem?_eq_getElem hjc, Option.map_some, hF, if_pos hj, ← hFg _ (by omega)]
       have hjF : j - o < Fl.size := by omega
       rw [Array.getElem?_eq_getElem hjF, getElem!_pos Fl (j - o) hjF]; rfl
      ·rw [if_neg hj]
       cases hcj : c[j]? with
       | none => rfl
       | some v => rw [Option.map_some, hF, if_neg hj]
  ·cases h
 ·cases h
end Go.AM

/- The table of the functions. -/
namespace Go.AM
set_option linter.unusedVariables false
def tab : List (Nat × F) := [(n_c_law18_SpreadKept, F_c_law18_SpreadKept), (n_c_law12_Kind, F_c_law12_Kind), (n_c_law04_Own, F_c_law04_Own), (n_pile_Item_Canon, F_pile_Item_Canon), (n_pile_Sorted, F_pile_Sorted), (n_value_Of, F_value_Of), (n_cell_New, F_cell_New), (n_value_Value_Same, F_value_Value_Same), (n_c_law18_awake, F_c_law18_awake), (n_c_law17_Make, F_c_law17_Make), (n_spread_To, F_spread_To), (n_image_Image_Value, F_image_Image_Value), (n_spread_Engine, F_spread_Engine), (n_engine_Engine_Value, F_engine_Engine_Value), (n_engine_Engine_Param, F_engine_Engine_Param), (n_engine_Engine_Kind, F_engine_Engine_Kind), (n_engine_Engine_Busy, F_engine_Engine_Busy), (n_cell_Memory_Force, F_cell_Memory_Force), (n_engine_With, F_engine_With), (n_cell_Memory_Read, F_cell_Memory_Read), (n_c_law03_F, F_c_law03_F), (n_real_Canon, F_real_Canon), (n_pile_New, F_pile_New), (n_pile_Pile_All, F_pile_Pile_All), (n_op_Legal, F_op_Legal), (n_value_bag, F_value_bag), (n_value_line, F_value_line), (n_value_sum, F_value_sum), (n_net_New, F_net_New), (n_net_Net_Out, F_net_Net_Out), (n_slices_EqualFunc_pile_Item_pile_Item_pile_Item_pile_Item_1, F_slices_EqualFunc_pile_Item_pile_Item_pile_Item_pile_Item_1), (n_value_Value_Same_1, F_value_Value_Same_1), (n_pile_Item_Cmp, F_pile_Item_Cmp), (n_spread_Lay, F_spread_Lay), (n_c_law17_sorted, F_c_law17_sorted), (n_image_Image_Check, F_image_Image_Check), (n_image_Room, F_image_Room), (n_spread_Deal, F_spread_Deal), (n_wire_Even, F_wire_Even), (n_cell_Memory_Write, F_cell_Memory_Write), (n_engine_machine, F_engine_machine), (n_cell_Value_Clone, F_cell_Value_Clone), (n_container_heap_Init, F_container_heap_Init), (n_pile_Pile_Take, F_pile_Pile_Take), (n_cell_Memory_Len, F_cell_Memory_Len), (n_value_line_1, F_value_line_1), (n_wire_Make, F_wire_Make), (n_real_Cmp, F_real_Cmp), (n_spread_fifo, F_spread_fifo), (n_spread_tokens, F_spread_tokens), (n_image_Shape, F_image_Shape), (n_image_order, F_image_order), (n_multi_New, F_multi_New), (n_kfifo_New, F_kfifo_New), (n_tally_New, F_tally_New), (n_container_heap_down, F_container_heap_down), (n_container_heap_Pop, F_container_heap_Pop), (n_wire_Plan_count, F_wire_Plan_count), (n_real_Key, F_real_Key), (n_kfifo_Queue_Slot, F_kfifo_Queue_Slot), (n_wire_Plan_Pass, F_wire_Plan_Pass), (n_wire_Plan_merge, F_wire_Plan_merge), (n_slices_xorshift_Next, F_slices_xorshift_Next), (n_wire_every, F_wire_every), (n_pile_items_Len, F_pile_items_Len), (n_pile_items_Less, F_pile_items_Less), (n_pile_items_Swap, F_pile_items_Swap), (n_pile_items_Pop, F_pile_items_Pop), (n_pile_items_Len_q, F_pile_items_Len_q), (n_pile_items_Less_q, F_pile_items_Less_q), (n_pile_items_Swap_q, F_pile_items_Swap_q)]
def methL : List (TypeId × String × FuncId) := [(t_pile_Item, "Canon", n_pile_Item_Canon), (t_pile_Item, "Cmp", n_pile_Item_Cmp), (t_net_Net, "Out", n_net_Net_Out), (t_pile_items_u, "Len", n_pile_items_Len_q), (t_pile_items_u, "Less", n_pile_items_Less_q), (t_pile_items_u, "Pop", n_pile_items_Pop), (t_pile_items_u, "Swap", n_pile_items_Swap_q), (t_kfifo_Queue, "Slot", n_kfifo_Queue_Slot)]
def libL : FuncId → List D → Option D := fun f ds => none
def EE : En := ⟨fun f => look f tab, some 83, some 85, fun t nm => (methL.find? fun p => p.1 == t && p.2.1 == nm).map (·.2.2), libL, srtL⟩
theorem e_c_law18_SpreadKept : EE.fn n_c_law18_SpreadKept = some F_c_law18_SpreadKept := by kernel_rfl
theorem e_c_law12_Kind : EE.fn n_c_law12_Kind = some F_c_law12_Kind := by kernel_rfl
theorem e_c_law04_Own : EE.fn n_c_law04_Own = some F_c_law04_Own := by kernel_rfl
theorem e_pile_Item_Canon : EE.fn n_pile_Item_Canon = some F_pile_Item_Canon := by kernel_rfl
theorem e_pile_Sorted : EE.fn n_pile_Sorted = some F_pile_Sorted := by kernel_rfl
theorem e_value_Of : EE.fn n_value_Of = some F_value_Of := by kernel_rfl
theorem e_cell_New : EE.fn n_cell_New = some F_cell_New := by kernel_rfl
theorem e_value_Value_Same : EE.fn n_value_Value_Same = some F_value_Value_Same := by kernel_rfl
theorem e_c_law17_Make : EE.fn n_c_law17_Make = some F_c_law17_Make := by kernel_rfl
theorem e_spread_To : EE.fn n_spread_To = some F_spread_To := by kernel_rfl
theorem e_image_Image_Value : EE.fn n_image_Image_Value = some F_image_Image_Value := by kernel_rfl
theorem e_spread_Engine : EE.fn n_spread_Engine = some F_spread_Engine := by kernel_rfl
theorem e_engine_Engine_Value : EE.fn n_engine_Engine_Value = some F_engine_Engine_Value := by kernel_rfl
theorem e_engine_Engine_Param : EE.fn n_engine_Engine_Param = some F_engine_Engine_Param := by kernel_rfl
theorem e_engine_Engine_Kind : EE.fn n_engine_Engine_Kind = some F_engine_Engine_Kind := by kernel_rfl
theorem e_engine_Engine_Busy : EE.fn n_engine_Engine_Busy = some F_engine_Engine_Busy := by kernel_rfl
theorem e_cell_Memory_Force : EE.fn n_cell_Memory_Force = some F_cell_Memory_Force := by kernel_rfl
theorem e_engine_With : EE.fn n_engine_With = some F_engine_With := by kernel_rfl
theorem e_cell_Memory_Read : EE.fn n_cell_Memory_Read = some F_cell_Memory_Read := by kernel_rfl
theorem e_c_law03_F : EE.fn n_c_law03_F = some F_c_law03_F := by kernel_rfl
theorem e_real_Canon : EE.fn n_real_Canon = some F_real_Canon := by kernel_rfl
theorem e_pile_New : EE.fn n_pile_New = some F_pile_New := by kernel_rfl
theorem e_pile_Pile_All : EE.fn n_pile_Pile_All = some F_pile_Pile_All := by kernel_rfl
theorem e_op_Legal : EE.fn n_op_Legal = some F_op_Legal := by kernel_rfl
theorem e_value_bag : EE.fn n_value_bag = some F_value_bag := by kernel_rfl
theorem e_value_line : EE.fn n_value_line = some F_value_line := by kernel_rfl
theorem e_value_sum : EE.fn n_value_sum = some F_value_sum := by kernel_rfl
theorem e_net_New : EE.fn n_net_New = some F_net_New := by kernel_rfl
theorem e_net_Net_Out : EE.fn n_net_Net_Out = some F_net_Net_Out := by kernel_rfl
theorem e_slices_EqualFunc_pile_Item_pile_Item_pile_Item_pile_Item_1 : EE.fn n_slices_EqualFunc_pile_Item_pile_Item_pile_Item_pile_Item_1 = some F_slices_EqualFunc_pile_Item_pile_Item_pile_Item_pile_Item_1 := by kernel_rfl
theorem e_value_Value_Same_1 : EE.fn n_value_Value_Same_1 = some F_value_Value_Same_1 := by kernel_rfl
theorem e_pile_Item_Cmp : EE.fn n_pile_Item_Cmp = some F_pile_Item_Cmp := by kernel_rfl
theorem e_spread_Lay : EE.fn n_spread_Lay = some F_spread_Lay := by kernel_rfl
theorem e_c_law17_sorted : EE.fn n_c_law17_sorted = some F_c_law17_sorted := by kernel_rfl
theorem e_image_Image_Check : EE.fn n_image_Image_Check = some F_image_Image_Check := by kernel_rfl
theorem e_image_Room : EE.fn n_image_Room = some F_image_Room := by kernel_rfl
theorem e_spread_Deal : EE.fn n_spread_Deal = some F_spread_Deal := by kernel_rfl
theorem e_wire_Even : EE.fn n_wire_Even = some F_wire_Even := by kernel_rfl
theorem e_cell_Memory_Write : EE.fn n_cell_Memory_Write = some F_cell_Memory_Write := by kernel_rfl
theorem e_engine_machine : EE.fn n_engine_machine = some F_engine_machine := by kernel_rfl
theorem e_cell_Value_Clone : EE.fn n_cell_Value_Clone = some F_cell_Value_Clone := by kernel_rfl
theorem e_container_heap_Init : EE.fn n_container_heap_Init = some F_container_heap_Init := by kernel_rfl
theorem e_pile_Pile_Take : EE.fn n_pile_Pile_Take = some F_pile_Pile_Take := by kernel_rfl
theorem e_cell_Memory_Len : EE.fn n_cell_Memory_Len = some F_cell_Memory_Len := by kernel_rfl
theorem e_wire_Make : EE.fn n_wire_Make = some F_wire_Make := by kernel_rfl
theorem e_real_Cmp : EE.fn n_real_Cmp = some F_real_Cmp := by kernel_rfl
theorem e_spread_fifo : EE.fn n_spread_fifo = some F_spread_fifo := by kernel_rfl
theorem e_spread_tokens : EE.fn n_spread_tokens = some F_spread_tokens := by kernel_rfl
theorem e_image_Shape : EE.fn n_image_Shape = some F_image_Shape := by kernel_rfl
theorem e_image_order : EE.fn n_image_order = some F_image_order := by kernel_rfl
theorem e_multi_New : EE.fn n_multi_New = some F_multi_New := by kernel_rfl
theorem e_kfifo_New : EE.fn n_kfifo_New = some F_kfifo_New := by kernel_rfl
theorem e_tally_New : EE.fn n_tally_New = some F_tally_New := by kernel_rfl
theorem e_container_heap_down : EE.fn n_container_heap_down = some F_container_heap_down := by kernel_rfl
theorem e_container_heap_Pop : EE.fn n_container_heap_Pop = some F_container_heap_Pop := by kernel_rfl
theorem e_real_Key : EE.fn n_real_Key = some F_real_Key := by kernel_rfl
theorem e_kfifo_Queue_Slot : EE.fn n_kfifo_Queue_Slot = some F_kfifo_Queue_Slot := by kernel_rfl
theorem e_wire_Plan_Pass : EE.fn n_wire_Plan_Pass = some F_wire_Plan_Pass := by kernel_rfl
theorem e_pile_items_Pop : EE.fn n_pile_items_Pop = some F_pile_items_Pop := by kernel_rfl
theorem e_pile_items_Len_q : EE.fn n_pile_items_Len_q = some F_pile_items_Len_q := by kernel_rfl
theorem e_pile_items_Less_q : EE.fn n_pile_items_Less_q = some F_pile_items_Less_q := by kernel_rfl
theorem e_pile_items_Swap_q : EE.fn n_pile_items_Swap_q = some F_pile_items_Swap_q := by kernel_rfl
end Go.AM
