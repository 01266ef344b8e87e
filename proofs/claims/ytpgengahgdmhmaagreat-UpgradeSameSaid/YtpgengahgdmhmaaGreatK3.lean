/- Lemmas: an abstract machine over the loaded program, proved sound against the model once; what the program's functions compute. -/
import Derived.Test.YtpgengahgdmhmaaGreatK0
import Derived.KernelRfl
set_option linter.all false
/- The functions of the program, as the abstract machine takes them: printed by gen2.py. -/
namespace Go.AM
set_option linter.unusedVariables false
abbrev I.o (d : Nat) (e : O) : I := ⟨some d, none, e, [], 0⟩
abbrev I.s (e : O) : I := ⟨none, none, e, [], 0⟩
abbrev I.c (n : Nat) (b : Bool) (d : Nat) (e : O) : I := ⟨some d, some (n, b), e, [], 0⟩
abbrev I.z (d : Nat) (e : O) (z : Nat) : I := ⟨some d, none, e, [], z⟩
abbrev I.u (d : Nat) (e : O) (un : List Nat) (z : Nat) : I := ⟨some d, none, e, un, z⟩
def t_pile_Item : TypeId := 80
def t_pile_items_u : TypeId := 175

def n_c_law22_UpgradeSame : FuncId := 8
def n_c_ref21_Write : FuncId := 10
def n_c_law17_Told : FuncId := 11
def n_c_law17_Make : FuncId := 12
def n_c_ref02_Seal : FuncId := 13
def n_elder_Read : FuncId := 15
def n_elder_Write : FuncId := 16
def n_image_Image_Value : FuncId := 17
def n_value_Value_Same : FuncId := 18
def n_c_law22_awake : FuncId := 20
def n_upgrade_All : FuncId := 21
def n_upgrade_Step : FuncId := 22
def n_file_Decode : FuncId := 25
def n_elder_Version : FuncId := 26
def n_c_ref01_Num2 : FuncId := 27
def n_c_ref17_Value : FuncId := 28
def n_c_ref01_Fixed : FuncId := 29
def n_c_ref01_Int : FuncId := 30
def n_c_ref19_Meta : FuncId := 31
def n_c_ref19_Data : FuncId := 32
def n_c_ref20_Encode : FuncId := 33
def n_c_law04_Bits : FuncId := 34
def n_c_law12_Kind : FuncId := 35
def n_c_law04_Own : FuncId := 36
def n_pile_Item_Canon : FuncId := 37
def n_c_law17_sorted : FuncId := 38
def n_c_ref02_Word : FuncId := 39
def n_c_ref02_Sum : FuncId := 40
def n_elder_read : FuncId := 43
def n_image_Image_Check : FuncId := 44
def n_elder_one : FuncId := 45
def n_crc_Make : FuncId := 46
def n_crc_Table_Seal : FuncId := 47
def n_elder_two : FuncId := 48
def n_elder_three : FuncId := 49
def n_file_Encode : FuncId := 50
def n_pile_Sorted : FuncId := 51
def n_slices_EqualFunc_pile_Item_pile_Item_pile_Item_pile_Item_1 : FuncId := 52
def n_value_Value_Same_1 : FuncId := 53
def n_pile_Item_Cmp : FuncId := 54
def n_file_reader_begin : FuncId := 59
def n_file_reader_sections : FuncId := 60
def n_section_Read : FuncId := 61
def n_strings_HasPrefix : FuncId := 62
def n_c_ref04_With : FuncId := 63
def n_c_ref19_Items : FuncId := 64
def n_c_ref20_word : FuncId := 65
def n_c_ref20_entry : FuncId := 66
def n_c_ref03_Bits : FuncId := 67
def n_c_law03_F : FuncId := 69
def n_real_Canon : FuncId := 70
def n_c_ref02_Bits : FuncId := 71
def n_crc_Table_Open : FuncId := 78
def n_elder_parse : FuncId := 79
def n_op_Legal : FuncId := 80
def n_image_Shape : FuncId := 81
def n_image_order : FuncId := 82
def n_octet_Num : FuncId := 83
def n_octet_Long : FuncId := 84
def n_octet_Word : FuncId := 85
def n_crc_Table_Sum : FuncId := 86
def n_octet_Int : FuncId := 87
def n_section_Of : FuncId := 88
def n_pile_New : FuncId := 89
def n_pile_Pile_All : FuncId := 90
def n_real_Cmp : FuncId := 91
def n_octet_Of : FuncId := 92
def n_octet_In_Bytes : FuncId := 93
def n_octet_In_Byte : FuncId := 94
def n_octet_In_Word : FuncId := 95
def n_octet_In_Err : FuncId := 96
def n_octet_In_Num : FuncId := 97
def n_octet_In_End : FuncId := 98
def n_section_read : FuncId := 99
def n_internal_stringslite_HasPrefix : FuncId := 100
def n_c_ref04_Cmp : FuncId := 101
def n_c_ref03_Key : FuncId := 102
def n_op_Of : FuncId := 113
def n_elder_third : FuncId := 114
def n_elder_first : FuncId := 115
def n_elder_second : FuncId := 116
def n_octet_fixed_uint64 : FuncId := 117
def n_octet_fixed_uint32 : FuncId := 118
def n_crc_Table_More : FuncId := 119
def n_section_meta : FuncId := 120
def n_section_data : FuncId := 121
def n_container_heap_Init : FuncId := 122
def n_pile_Pile_Take : FuncId := 123
def n_real_Key : FuncId := 124
def n_octet_In_fail : FuncId := 125
def n_section_take : FuncId := 126
def n_c_ref03_Cmp : FuncId := 127
def n_elder_flat : FuncId := 137
def n_spread_Deal : FuncId := 138
def n_elder_total : FuncId := 139
def n_wire_Even : FuncId := 140
def n_octet_In_Long : FuncId := 141
def n_elder_item : FuncId := 142
def n_octet_In_Int : FuncId := 143
def n_section_Items : FuncId := 144
def n_container_heap_down : FuncId := 145
def n_container_heap_Pop : FuncId := 146
def n_real_Back : FuncId := 147
def n_pile_items_Len : FuncId := 166
def n_pile_items_Less : FuncId := 167
def n_pile_items_Swap : FuncId := 168
def n_pile_items_Pop : FuncId := 169
def n_pile_items_Len_q : FuncId := 1000166
def n_pile_items_Less_q : FuncId := 1000167
def n_pile_items_Swap_q : FuncId := 1000168
def F_c_law22_UpgradeSame : F := ⟨2,[.inl 4],
 (.seq (.reg [.zz 0] [.o 2 (.bx (.k 0)),
 .o 4 (.mv (.c (.b false)))] false [1,2] [2])
 (.seq (.seq (.reg [] [.o 11 (.call n_c_law22_awake []),
 .o 12 (.un .not (.k 11))] false [1,2,12] [2])
 (.cond 12 (.seq (.reg [] [.o 4 (.mv (.c (.b false)))] false [4] [])
 .ret)
 .skip))
 (.seq (.reg [] [.z 13 (.ld true 6 .tk (.k 2)) 2,
 .z 14 (.call n_c_law17_Make [.k 13]) 1,
 .o 5 (.al ([.i .i64 0,.i .i64 0,.i .u64 0,.l .o 1 [],.l .o 1 []])),
 .s (.st 5 (.t 5) (.k 14))] false [1,5] [5])
 (.seq (.reg [] [.o 15 (.mv (.k 1)),
 .o 16 (.bin .and (.k 15) (.c (.i .i64 255))),
 .o 17 (.bin .rem (.k 16) (.c (.i .i64 4))),
 .o 18 (.bin .add (.c (.i .i64 1)) (.k 17)),
 .o 1 (.mv (.k 18))] false [1,5] [5])
 (.seq (.reg [] [.z 20 (.ld true 5 .cp (.t 5)) 2,
 .z 21 (.call n_c_law17_Told [.k 20]) 2,
 .o 22 (.mv (.t 1)),
 .o 23 (.call n_c_ref21_Write [.k 21,.k 22]),
 .o 24 (.call n_upgrade_All [.k 23]),
 .o 19 (.mv (.k 24)),
 .o 25 (.ex false 0 19),
 .o 26 (.ex false 1 19),
 .o 6 (.mv (.k 25)),
 .o 7 (.mv (.k 26))] false [1,5,6,7] [5])
 (.seq (.reg [] [.o 28 (.mv (.k 6)),
 .o 29 (.call n_file_Decode [.k 28]),
 .o 27 (.mv (.k 29)),
 .o 30 (.ex false 0 27),
 .o 31 (.ex false 1 27),
 .o 8 (.al ([.i .i64 0,.i .i64 0,.i .u64 0,.l .o 1 [],.l .o 1 []])),
 .s (.st 5 (.t 8) (.k 30)),
 .o 9 (.mv (.k 31))] false [1,5,7,8,9] [5,8])
 (.seq (.reg [] [.o 32 (.fa 2 (.t 5)),
 .o 33 (.ld false 1 .cp (.k 32)),
 .o 10 (.mv (.k 33))] false [1,5,7,8,9,10] [5,8])
 (.seq (.seq (.reg [] [.o 34 (.mv (.k 1)),
 .o 35 (.bin .lss (.k 34) (.c (.i .i64 3)))] false [5,7,8,9,10,35] [5,8])
 (.cond 35 (.reg [] [.o 10 (.mv (.c (.i .u64 0)))] false [5,7,8,9,10] [5,8])
 .skip))
 (.seq (.reg [] [.o 36 (.mv (.k 7)),
 .o 37 (.bin .eql (.k 36) (.c (.i .i64 0))),
 .o 38 (.mv (.k 37)),
 .c 38 true 39 (.mv (.k 9)),
 .c 38 true 40 (.bin .eql (.k 39) (.c (.i .i64 0))),
 .o 41 (.pick (.t 38) (.k 40) (.c (.b false))),
 .o 42 (.mv (.k 41)),
 .c 42 true 43 (.fa 0 (.t 8)),
 .c 42 true 44 (.ld false 1 .cp (.k 43)),
 ⟨some 45,some (42,true),.fa 0 (.t 5),[7,8],0⟩,
 ⟨some 46,some (42,true),.ld false 1 .cp (.k 45),[7,8],0⟩,
 .c 42 true 47 (.bin .eql (.k 44) (.k 46)),
 .o 48 (.pick (.t 42) (.k 47) (.c (.b false))),
 .o 49 (.mv (.k 48)),
 .c 49 true 50 (.fa 1 (.t 8)),
 .c 49 true 51 (.ld false 1 .cp (.k 50)),
 ⟨some 52,some (49,true),.fa 1 (.t 5),[14,15],0⟩,
 ⟨some 53,some (49,true),.ld false 1 .cp (.k 52),[14,15],0⟩,
 .c 49 true 54 (.bin .eql (.k 51) (.k 53)),
 .o 55 (.pick (.t 49) (.k 54) (.c (.b false))),
 .o 56 (.mv (.k 55)),
 ⟨some 57,some (56,true),.ld true 5 .cp (.t 8),[],2⟩,
 ⟨some 58,some (56,true),.call n_image_Image_Value [.k 57],[],2⟩,
 ⟨some 59,some (56,true),.ld true 5 .cp (.t 5),[21,22],2⟩,
 ⟨some 60,some (56,true),.call n_image_Image_Value [.k 59],[],2⟩,
 .c 56 true 61 (.call n_value_Value_Same [.k 58,.k 60]),
 .o 62 (.pick (.t 56) (.k 61) (.c (.b false))),
 .o 63 (.mv (.k 62)),
 .c 63 true 64 (.fa 2 (.t 8)),
 .c 63 true 65 (.ld false 1 .cp (.k 64)),
 ⟨some 66,some (63,true),.mv (.k 10),[28,29],0⟩,
 .c 63 true 67 (.bin .eql (.k 65) (.k 66)),
 .o 68 (.pick (.t 63) (.k 67) (.c (.b false))),
 .o 4 (.mv (.k 68))] true [4] [])
 .ret)))))))))⟩

def F_c_ref21_Write : F := ⟨2,[.inl 4],
 (.seq (.reg [.zz 0] [.o 2 (.bx (.k 0)),
 .o 4 (.mv (.c (.s ⟨#[]⟩)))] false [1,2] [2])
 (.seq (.reg [] [.o 17 (.mv (.t 1)),
 .o 18 (.cv (.int .u8) (.k 17)),
 .o 19 (.fa 0 (.t 2)),
 .o 20 (.ld false 1 .cp (.k 19)),
 .o 21 (.cv (.int .u8) (.k 20)),
 .z 22 (.bs 1 2 (.i .u8 0) [(0,.k 18),(1,.k 21)]) 1,
 .o 23 (.cv .str (.k 22)),
 .o 24 (.bin .add (.c (.s ⟨#[67,82,89,79]⟩)) (.k 23)),
 .o 5 (.mv (.k 24))] false [1,2,5] [2])
 (.seq (.seq (.reg [] [.o 25 (.mv (.k 1))] false [2,5,25] [2])
 (.blk 0 (.seq (.reg [] [.o 27 (.bin .eql (.t 25) (.c (.i .i64 1))),
 .o 26 (.mv (.k 27))] false [2,5,25,26] [2])
 (.cond 26 (.seq (.reg [] [.o 28 (.mv (.k 5)),
 .o 29 (.fa 1 (.t 2)),
 .o 30 (.ld false 1 .cp (.k 29)),
 .o 31 (.cv (.int .u64) (.k 30)),
 .o 32 (.call n_c_ref01_Num2 [.k 31]),
 .o 33 (.bin .add (.k 28) (.k 32)),
 .o 5 (.mv (.k 33))] false [2,5] [2])
 (.seq (.reg [] [.z 34 (.ld true 5 .cp (.t 2)) 2,
 .o 35 (.call n_c_ref17_Value [.k 34]),
 .o 6 (.al ([.i .i64 0,.l .o 2 [],.i .i64 0])),
 .s (.st 3 (.t 6) (.k 35))] false [2,5,6] [2,6])
 (.seq (.seq (.reg [] [.o 36 (.fa 0 (.k 2)),
 .o 37 (.ld false 1 .cp (.k 36)),
 .o 38 (.bin .gtr (.k 37) (.c (.i .i64 2)))] false [5,6,38] [6])
 (.cond 38 (.seq (.reg [] [.o 39 (.mv (.k 5)),
 .o 40 (.fa 2 (.k 6)),
 .o 41 (.ld false 1 .cp (.k 40)),
 .o 42 (.cv (.int .u64) (.k 41)),
 .o 43 (.call n_c_ref01_Fixed [.k 42,.c (.i .i64 8)]),
 .o 44 (.bin .add (.k 39) (.k 43)),
 .o 4 (.mv (.k 44))] false [4] [])
 .ret)
 .skip))
 (.seq (.reg [] [.o 45 (.mv (.k 5)),
 .o 46 (.fa 1 (.t 6)),
 .o 47 (.ld false 1 .cp (.k 46)),
 .o 48 (.len false (.k 47)),
 .o 49 (.cv (.int .u64) (.k 48)),
 .o 50 (.call n_c_ref01_Fixed [.k 49,.c (.i .i64 4)]),
 .o 51 (.bin .add (.k 45) (.k 50)),
 .o 5 (.mv (.k 51))] false [5,6] [6])
 (.seq (.seq (.reg [] [.o 52 (.fa 1 (.k 6)),
 .o 53 (.ld false 1 .tk (.k 52)),
 .o 54 (.len false (.t 53)),
 .o 55 (.mv (.c (.i .i64 0)))] false [5,53,54,55] [])
 (.blk 1 (.loop (.seq (.reg [] [.o 56 (.bin .lss (.t 55) (.t 54))] false [5,53,54,55,56] [])
 (.seq (.cond 56 .skip
 (.exit 1))
 (.seq (.blk 2 (.seq (.reg [] [.o 57 (.ia 2 none (.t 53) (.t 55)),
 .o 58 (.ld true 2 .cp (.k 57)),
 .o 8 (.al ([.i .u64 0,.i .i64 0])),
 .s (.st 2 (.t 8) (.k 58))] false [5,8,53,54,55] [8])
 (.reg [] [.o 59 (.mv (.k 5)),
 .u 60 (.fa 0 (.t 8)) [0] 0,
 .u 61 (.ld false 1 .cp (.k 60)) [0] 0,
 .u 62 (.call n_c_ref01_Fixed [.k 61,.c (.i .i64 8)]) [0] 0,
 .u 63 (.fa 1 (.t 8)) [0,1,2,3] 0,
 .u 64 (.ld false 1 .cp (.k 63)) [0,1,2,3] 0,
 .u 65 (.cv (.int .u64) (.k 64)) [0,1,2,3] 0,
 .u 66 (.call n_c_ref01_Fixed [.k 65,.c (.i .i64 8)]) [0] 0,
 .u 67 (.bin .add (.k 62) (.k 66)) [0] 0,
 .o 68 (.bin .add (.k 59) (.k 67)),
 .o 5 (.mv (.k 68))] true [5,53,54,55] [])))
 (.reg [] [.o 69 (.bin .add (.k 55) (.c (.i .i64 1))),
 .o 55 (.mv (.k 69))] false [5,53,54,55] [])))))))
 (.seq (.reg [] [.o 70 (.mv (.k 5)),
 .o 4 (.mv (.k 70))] false [4] [])
 .ret))))))
 (.seq (.reg [] [.o 72 (.bin .eql (.t 25) (.c (.i .i64 2))),
 .o 71 (.mv (.k 72))] false [2,5,25,71] [2])
 (.cond 71 (.seq (.reg [] [.o 73 (.mv (.k 5)),
 .o 74 (.fa 1 (.t 2)),
 .o 75 (.ld false 1 .cp (.k 74)),
 .o 76 (.cv (.int .u64) (.k 75)),
 .o 77 (.call n_c_ref01_Num2 [.k 76]),
 .o 78 (.bin .add (.k 73) (.k 77)),
 .o 5 (.mv (.k 78))] false [2,5] [2])
 (.seq (.seq (.reg [] [.o 79 (.fa 3 (.t 2)),
 .o 80 (.ld false 1 .cp (.k 79)),
 .o 81 (.len false (.t 80)),
 .o 82 (.mv (.c (.i .i64 0)))] false [2,5,80,81,82] [2])
 (.blk 3 (.loop (.seq (.reg [] [.o 83 (.bin .lss (.t 82) (.t 81))] false [2,5,80,81,82,83] [2])
 (.seq (.cond 83 .skip
 (.exit 3))
 (.seq (.blk 4 (.seq (.reg [] [.o 84 (.ia 1 none (.t 80) (.t 82)),
 .o 85 (.ld false 1 .cp (.k 84)),
 .o 10 (.mv (.k 85))] false [2,5,10,80,81,82] [2])
 (.seq (.reg [] [.o 86 (.mv (.k 5)),
 .o 87 (.mv (.t 10)),
 .o 88 (.len false (.k 87)),
 .o 89 (.cv (.int .u64) (.k 88)),
 .o 90 (.call n_c_ref01_Num2 [.k 89]),
 .o 91 (.bin .add (.k 86) (.k 90)),
 .o 5 (.mv (.k 91))] false [2,5,10,80,81,82] [2])
 (.seq (.reg [] [.o 92 (.mv (.k 10)),
 .o 93 (.len false (.t 92)),
 .o 94 (.mv (.c (.i .i64 0)))] false [2,5,80,81,82,92,93,94] [2])
 (.blk 5 (.loop (.seq (.reg [] [.o 95 (.bin .lss (.t 94) (.t 93))] false [2,5,80,81,82,92,93,94,95] [2])
 (.seq (.cond 95 .skip
 (.exit 5))
 (.seq (.blk 6 (.seq (.reg [] [.o 96 (.ia 2 none (.t 92) (.t 94)),
 .o 97 (.ld true 2 .cp (.k 96)),
 .o 12 (.al ([.i .u64 0,.i .i64 0])),
 .s (.st 2 (.t 12) (.k 97))] false [2,5,12,80,81,82,92,93,94] [2,12])
 (.reg [] [.o 98 (.mv (.k 5)),
 .u 99 (.fa 0 (.t 12)) [0] 0,
 .u 100 (.ld false 1 .cp (.k 99)) [0] 0,
 .u 101 (.call n_c_ref01_Fixed [.k 100,.c (.i .i64 8)]) [0] 0,
 .u 102 (.fa 1 (.t 12)) [0,1,2,3] 0,
 .u 103 (.ld false 1 .cp (.k 102)) [0,1,2,3] 0,
 .u 104 (.call n_c_ref01_Int [.k 103]) [0] 0,
 .u 105 (.bin .add (.k 101) (.k 104)) [0] 0,
 .o 106 (.bin .add (.k 98) (.k 105)),
 .o 5 (.mv (.k 106))] true [2,5,80,81,82,92,93,94] [2])))
 (.reg [] [.o 107 (.bin .add (.k 94) (.c (.i .i64 1))),
 .o 94 (.mv (.k 107))] false [2,5,80,81,82,92,93,94] [2]))))))))))
 (.reg [] [.o 108 (.bin .add (.k 82) (.c (.i .i64 1))),
 .o 82 (.mv (.k 108))] false [2,5,80,81,82] [2])))))))
 (.seq (.seq (.reg [] [.o 109 (.fa 4 (.k 2)),
 .o 110 (.ld false 1 .tk (.k 109)),
 .o 111 (.len false (.t 110)),
 .o 112 (.mv (.c (.i .i64 0)))] false [5,110,111,112] [])
 (.blk 7 (.loop (.seq (.reg [] [.o 113 (.bin .lss (.t 112) (.t 111))] false [5,110,111,112,113] [])
 (.seq (.cond 113 .skip
 (.exit 7))
 (.seq (.blk 8 (.seq (.reg [] [.o 114 (.ia 1 none (.t 110) (.t 112)),
 .o 115 (.ld false 1 .cp (.k 114)),
 .o 14 (.mv (.k 115))] false [5,14,110,111,112] [])
 (.reg [] [.o 116 (.mv (.k 5)),
 .o 117 (.mv (.k 14)),
 .o 118 (.cv (.int .u64) (.k 117)),
 .o 119 (.call n_c_ref01_Num2 [.k 118]),
 .o 120 (.bin .add (.k 116) (.k 119)),
 .o 5 (.mv (.k 120))] false [5,110,111,112] [])))
 (.reg [] [.o 121 (.bin .add (.k 112) (.c (.i .i64 1))),
 .o 112 (.mv (.k 121))] false [5,110,111,112] [])))))))
 (.seq (.reg [] [.o 122 (.mv (.k 5)),
 .o 123 (.call n_c_ref02_Seal [.k 122]),
 .o 4 (.mv (.k 123))] false [4] [])
 .ret))))
 (.seq (.reg [] [.o 125 (.bin .eql (.k 25) (.c (.i .i64 3))),
 .o 124 (.mv (.k 125))] false [2,5,124] [2])
 (.cond 124 (.seq (.reg [] [.z 126 (.ld true 5 .cp (.t 2)) 2,
 .o 127 (.call n_c_ref19_Meta [.k 126]),
 .u 128 (.ld true 5 .cp (.t 2)) [0,1] 2,
 .o 129 (.call n_c_ref19_Data [.k 128]),
 .o 15 (.mv (.k 127)),
 .o 16 (.mv (.k 129))] true [5,15,16] [])
 (.seq (.reg [] [.o 130 (.mv (.k 5)),
 .o 131 (.mv (.t 15)),
 .o 132 (.len true (.k 131)),
 .o 133 (.cv (.int .u64) (.k 132)),
 .o 134 (.call n_c_ref01_Fixed [.k 133,.c (.i .i64 4)]),
 .o 135 (.bin .add (.c (.s ⟨#[2,1]⟩)) (.k 134)),
 .o 136 (.bin .add (.k 135) (.c (.s ⟨#[2]⟩))),
 .o 137 (.mv (.t 16)),
 .o 138 (.len true (.k 137)),
 .o 139 (.cv (.int .u64) (.k 138)),
 .o 140 (.call n_c_ref01_Fixed [.k 139,.c (.i .i64 4)]),
 .o 141 (.bin .add (.k 136) (.k 140)),
 .o 142 (.mv (.k 15)),
 .o 143 (.bin .add (.k 141) (.k 142)),
 .o 144 (.mv (.k 16)),
 .o 145 (.bin .add (.k 143) (.k 144)),
 .o 146 (.bin .add (.k 130) (.k 145)),
 .o 5 (.mv (.k 146))] false [5] [])
 (.seq (.reg [] [.o 147 (.mv (.k 5)),
 .o 148 (.call n_c_ref02_Seal [.k 147]),
 .o 4 (.mv (.k 148))] false [4] [])
 .ret)))
 .skip))))))))
 (.seq (.reg [] [.z 149 (.ld true 5 .tk (.k 2)) 2,
 .o 150 (.call n_c_ref20_Encode [.k 149]),
 .o 4 (.mv (.k 150))] false [4] [])
 .ret))))⟩

def F_c_law17_Told : F := ⟨1,[.inr (2,true,5)],
 (.seq (.reg [.zz 0] [.o 1 (.bx (.k 0)),
 .o 2 (.al ([.i .i64 0,.i .i64 0,.i .u64 0,.l .o 1 [],.l .o 1 []]))] false [1,2] [1,2])
 (.seq (.reg [] [.o 11 (.fa 0 (.t 1)),
 .o 12 (.ld false 1 .cp (.k 11)),
 .o 13 (.fa 1 (.t 1)),
 .o 14 (.ld false 1 .cp (.k 13)),
 .o 15 (.fa 2 (.t 1)),
 .o 16 (.ld false 1 .cp (.k 15)),
 .o 17 (.bd ([.i .i64 0,.i .i64 0,.i .u64 0,.l .o 1 [],.l .o 1 []]) [(0,1,.k 12),(1,1,.k 14),(2,1,.k 16)]),
 .o 3 (.al ([.i .i64 0,.i .i64 0,.i .u64 0,.l .o 1 [],.l .o 1 []])),
 .s (.st 5 (.t 3) (.k 17))] false [1,2,3] [1,2,3])
 (.seq (.seq (.reg [] [.o 18 (.fa 3 (.t 1)),
 .o 19 (.ld false 1 .cp (.k 18)),
 .o 20 (.len false (.t 19)),
 .o 21 (.mv (.c (.i .i64 0)))] false [1,2,3,19,20,21] [1,2,3])
 (.blk 0 (.loop (.seq (.reg [] [.o 22 (.bin .lss (.t 21) (.t 20))] false [1,2,3,19,20,21,22] [1,2,3])
 (.seq (.cond 22 .skip
 (.exit 0))
 (.seq (.blk 1 (.seq (.reg [] [.o 23 (.ia 1 none (.t 19) (.t 21)),
 .o 24 (.ld false 1 .cp (.k 23)),
 .o 5 (.mv (.k 24))] false [1,2,3,5,19,20,21] [1,2,3])
 (.seq (.reg [] [.z 25 (.bs 2 0 (.a ([.i .u64 0,.i .i64 0])) []) 1,
 .o 6 (.mv (.k 25))] false [1,2,3,5,6,19,20,21] [1,2,3])
 (.seq (.seq (.reg [] [.o 26 (.mv (.k 5)),
 .o 27 (.len false (.t 26)),
 .o 28 (.mv (.c (.i .i64 0)))] false [1,2,3,6,19,20,21,26,27,28] [1,2,3])
 (.blk 2 (.loop (.seq (.reg [] [.o 29 (.bin .lss (.t 28) (.t 27))] false [1,2,3,6,19,20,21,26,27,28,29] [1,2,3])
 (.seq (.cond 29 .skip
 (.exit 2))
 (.seq (.blk 3 (.seq (.reg [] [.o 30 (.ia 2 none (.t 26) (.t 28)),
 .o 31 (.ld true 2 .cp (.k 30)),
 .o 8 (.al ([.f .f64 0,.i .i64 0])),
 .s (.st 2 (.t 8) (.k 31))] false [1,2,3,6,8,19,20,21,26,27,28] [1,2,3,8])
 (.reg [] [.o 32 (.mv (.k 6)),
 .u 33 (.ld true 2 .cp (.t 8)) [0] 0,
 .u 34 (.call n_c_law04_Bits [.k 33]) [0] 0,
 .u 35 (.fa 1 (.t 8)) [0,1,2] 0,
 .u 36 (.ld false 1 .cp (.k 35)) [0,1,2] 0,
 .u 37 (.bd ([.i .u64 0,.i .i64 0]) [(0,1,.k 34),(1,1,.k 36)]) [0] 0,
 .u 38 (.bs 2 1 (.a ([.i .u64 0,.i .i64 0])) [(0,.k 37)]) [0] 0,
 .z 39 (.app 2 16 (.k 32) (.k 38)) 1,
 .o 6 (.mv (.k 39))] true [1,2,3,6,19,20,21,26,27,28] [1,2,3])))
 (.reg [] [.o 40 (.bin .add (.k 28) (.c (.i .i64 1))),
 .o 28 (.mv (.k 40))] false [1,2,3,6,19,20,21,26,27,28] [1,2,3])))))))
 (.reg [] [.o 41 (.fa 3 (.t 3)),
 .o 42 (.ld false 1 .tk (.k 41)),
 .o 43 (.mv (.k 6)),
 .o 44 (.bs 1 1 (.l .o 2 []) [(0,.k 43)]),
 .z 45 (.app 1 24 (.k 42) (.k 44)) 1,
 .o 46 (.fa 3 (.t 3)),
 .s (.st 1 (.k 46) (.k 45))] false [1,2,3,19,20,21] [1,2,3])))))
 (.reg [] [.o 47 (.bin .add (.k 21) (.c (.i .i64 1))),
 .o 21 (.mv (.k 47))] false [1,2,3,19,20,21] [1,2,3])))))))
 (.seq (.seq (.reg [] [.o 48 (.fa 4 (.k 1)),
 .o 49 (.ld false 1 .tk (.k 48)),
 .o 50 (.len false (.t 49)),
 .o 51 (.mv (.c (.i .i64 0)))] false [2,3,49,50,51] [2,3])
 (.blk 4 (.loop (.seq (.reg [] [.o 52 (.bin .lss (.t 51) (.t 50))] false [2,3,49,50,51,52] [2,3])
 (.seq (.cond 52 .skip
 (.exit 4))
 (.seq (.blk 5 (.seq (.reg [] [.o 53 (.ia 1 none (.t 49) (.t 51)),
 .o 54 (.ld false 1 .cp (.k 53)),
 .o 10 (.mv (.k 54))] false [2,3,10,49,50,51] [2,3])
 (.reg [] [.o 55 (.fa 4 (.t 3)),
 .o 56 (.ld false 1 .tk (.k 55)),
 .o 57 (.mv (.k 10)),
 .o 58 (.bs 1 1 (.i .i64 0) [(0,.k 57)]),
 .z 59 (.app 1 8 (.k 56) (.k 58)) 1,
 .o 60 (.fa 4 (.t 3)),
 .s (.st 1 (.k 60) (.k 59))] false [2,3,49,50,51] [2,3])))
 (.reg [] [.o 61 (.bin .add (.k 51) (.c (.i .i64 1))),
 .o 51 (.mv (.k 61))] false [2,3,49,50,51] [2,3])))))))
 (.seq (.reg [] [.o 62 (.ld true 5 .tk (.k 3)),
 .s (.st 5 (.t 2) (.k 62))] false [2] [2])
 .ret)))))⟩

def F_c_law17_Make : F := ⟨1,[.inr (2,true,5)],
 (.seq (.reg [.zz 0] [.o 1 (.bx (.k 0)),
 .o 2 (.al ([.i .i64 0,.i .i64 0,.i .u64 0,.l .x 1 [],.l .x 1 []]))] false [1,2] [1,2])
 (.seq (.reg [] [.o 13 (.fa 0 (.t 1)),
 .o 14 (.ld false 1 .cp (.k 13)),
 .o 15 (.fa 1 (.t 1)),
 .o 16 (.ld false 1 .cp (.k 15)),
 .o 17 (.call n_c_law12_Kind [.k 14,.k 16]),
 .o 12 (.mv (.k 17)),
 .o 18 (.ex false 0 12),
 .o 19 (.ex false 1 12),
 .o 3 (.mv (.k 18)),
 .o 4 (.mv (.k 19))] false [1,2,3,4] [1,2])
 (.seq (.reg [] [.o 20 (.mv (.t 3)),
 .o 21 (.mv (.t 4)),
 .o 22 (.fa 2 (.t 1)),
 .o 23 (.ld false 1 .cp (.k 22)),
 .o 24 (.bd ([.i .i64 0,.i .i64 0,.i .u64 0,.l .x 1 [],.l .x 1 []]) [(0,1,.k 20),(1,1,.k 21),(2,1,.k 23)]),
 .o 5 (.al ([.i .i64 0,.i .i64 0,.i .u64 0,.l .x 1 [],.l .x 1 []])),
 .s (.st 5 (.t 5) (.k 24))] false [1,2,3,4,5] [1,2,5])
 (.seq (.reg [] [.o 25 (.mv (.t 4)),
 .z 26 (.bs 1 5 (.i .i64 0) [(0,.c (.i .i64 0)),(1,.k 25),(2,.c (.i .i64 1)),(3,.c (.i .i64 0)),(4,.c (.i .i64 0))]) 1,
 .u 27 (.mv (.t 3)) [0,1] 0,
 .o 28 (.ia 1 none (.k 26) (.k 27)),
 .o 29 (.ld false 1 .cp (.k 28)),
 .u 30 (.mv (.t 4)) [0,1,2,3,4] 0,
 .u 31 (.bs 1 5 (.i .i64 0) [(0,.c (.i .i64 0)),(1,.c (.i .i64 0)),(2,.c (.i .i64 0)),(3,.k 30),(4,.c (.i .i64 1))]) [0,1,2,3,4] 1,
 .u 32 (.mv (.t 3)) [0,1,2,3,4,5,6] 0,
 .u 33 (.ia 1 none (.k 31) (.k 32)) [0,1,2,3,4] 0,
 .u 34 (.ld false 1 .cp (.k 33)) [0,1,2,3,4] 0,
 .u 6 (.mv (.k 29)) [5,6,7,8,9] 0,
 .o 7 (.mv (.k 34))] true [1,2,3,5,6,7] [1,2,5])
 (.seq (.seq (.reg [] [.o 35 (.mv (.t 6)),
 .o 36 (.mv (.c (.i .i64 0)))] false [1,2,3,5,6,7,35,36] [1,2,5])
 (.blk 0 (.loop (.seq (.reg [] [.o 37 (.bin .lss (.t 36) (.t 35))] false [1,2,3,5,6,7,35,36,37] [1,2,5])
 (.seq (.cond 37 .skip
 (.exit 0))
 (.seq (.blk 1 (.reg [] [.o 38 (.fa 3 (.t 5)),
 .o 39 (.ld false 1 .tk (.k 38)),
 .z 40 (.bs 2 0 (.a ([.f .f64 0,.i .i64 0])) []) 1,
 .o 41 (.bs 1 1 (.l .o 2 []) [(0,.k 40)]),
 .o 42 (.app 1 24 (.k 39) (.k 41)),
 .o 43 (.fa 3 (.t 5)),
 .s (.st 1 (.k 43) (.k 42))] false [1,2,3,5,6,7,35,36] [1,2,5]))
 (.reg [] [.o 44 (.bin .add (.k 36) (.c (.i .i64 1))),
 .o 36 (.mv (.k 44))] false [1,2,3,5,6,7,35,36] [1,2,5])))))))
 (.seq (.seq (.reg [] [.o 8 (.mv (.c (.i .i64 0)))] false [1,2,3,5,6,7,8] [1,2,5])
 (.blk 2 (.loop (.seq (.seq (.reg [] [.o 45 (.mv (.t 8)),
 .o 46 (.fa 3 (.t 1)),
 .o 47 (.ld false 1 .cp (.k 46)),
 .o 48 (.len false (.k 47)),
 .o 49 (.bin .lss (.k 45) (.k 48)),
 .o 50 (.mv (.k 49)),
 .c 50 true 51 (.mv (.t 8)),
 .c 50 true 52 (.bin .lss (.k 51) (.c (.i .i64 60))),
 .o 53 (.pick (.k 50) (.k 52) (.c (.b false))),
 .o 54 (.mv (.k 53)),
 .c 54 true 55 (.mv (.t 6)),
 .c 54 true 56 (.bin .gtr (.k 55) (.c (.i .i64 0))),
 .o 57 (.pick (.k 54) (.k 56) (.c (.b false)))] false [1,2,3,5,6,7,8,57] [1,2,5])
 (.cond 57 .skip
 (.exit 2)))
 (.seq (.blk 3 (.reg [] [.o 60 (.fa 3 (.t 5)),
 .o 61 (.lda 1 (.k 60)),
 .u 62 (.mv (.t 8)) [0,1] 0,
 .u 63 (.mv (.t 6)) [0,1,2] 0,
 .u 64 (.bin .rem (.k 62) (.k 63)) [0,1] 0,
 .u 65 (.fa 3 (.t 5)) [0,1,2,3,4] 0,
 .u 66 (.lda 1 (.k 65)) [0,1,2,3,4] 1,
 .u 67 (.mv (.t 8)) [0,1,2,3,4,5,6] 0,
 .u 68 (.mv (.t 6)) [0,1,2,3,4,5,6,7] 0,
 .u 69 (.bin .rem (.k 67) (.k 68)) [0,1,2,3,4,5,6] 0,
 .u 70 (.ia 1 none (.k 66) (.k 69)) [0,1,2,3,4] 0,
 .u 71 (.ld false 1 .tk (.k 70)) [0,1,2,3,4] 0,
 .u 72 (.fa 3 (.t 1)) [0,1,2,3,4,5,6,7,8,9,10,11] 0,
 .u 73 (.ld false 1 .cp (.k 72)) [0,1,2,3,4,5,6,7,8,9,10,11] 0,
 .u 74 (.mv (.t 8)) [0,1,2,3,4,5,6,7,8,9,10,11,12,13] 0,
 .u 75 (.ia 2 none (.k 73) (.k 74)) [0,1,2,3,4,5,6,7,8,9,10,11] 0,
 .u 76 (.ld true 2 .cp (.k 75)) [0,1,2,3,4,5,6,7,8,9,10,11] 0,
 .u 77 (.call n_c_law04_Own [.k 76]) [0,1,2,3,4,5,6,7,8,9,10,11] 0,
 .u 78 (.call n_pile_Item_Canon [.k 77]) [0,1,2,3,4,5,6,7,8,9,10,11] 0,
 .u 79 (.bs 2 1 (.a ([.f .f64 0,.i .i64 0])) [(0,.k 78)]) [0,1,2,3,4,5,6,7,8,9,10,11] 0,
 .u 80 (.app 2 16 (.k 71) (.k 79)) [0,1,2,3,4] 1,
 .o 81 (.ia 1 none (.k 61) (.k 64)),
 .s (.st 1 (.k 81) (.k 80))] true [1,2,3,5,6,7,8] [1,2,5]))
 (.reg [] [.o 58 (.mv (.k 8)),
 .o 59 (.bin .add (.k 58) (.c (.i .i64 1))),
 .o 8 (.mv (.k 59))] false [1,2,3,5,6,7,8] [1,2,5]))))))
 (.seq (.seq (.reg [] [.o 82 (.fa 3 (.t 5)),
 .z 83 (.lda 1 (.k 82)) 1,
 .o 84 (.len false (.k 83)),
 .o 85 (.mv (.c (.i .i64 0)))] false [1,2,3,5,7,84,85] [1,2,5])
 (.blk 4 (.loop (.seq (.reg [] [.o 86 (.bin .lss (.t 85) (.t 84))] false [1,2,3,5,7,84,85,86] [1,2,5])
 (.seq (.cond 86 .skip
 (.exit 4))
 (.seq (.blk 5 (.seq (.reg [] [.o 87 (.mv (.t 85)),
 .o 9 (.mv (.k 87))] false [1,2,3,5,7,9,84,85] [1,2,5])
 (.seq (.reg [] [.o 88 (.mv (.t 3)),
 .o 89 (.bin .eql (.k 88) (.c (.i .i64 1)))] false [1,2,3,5,7,9,84,85,89] [1,2,5])
 (.cond 89 (.reg [] [.o 90 (.fa 3 (.t 5)),
 .o 91 (.lda 1 (.k 90)),
 .u 92 (.mv (.t 9)) [0,1] 0,
 .u 93 (.fa 3 (.t 5)) [0,1,2] 0,
 .u 94 (.lda 1 (.k 93)) [0,1,2] 1,
 .u 95 (.mv (.t 9)) [0,1,2,3,4] 0,
 .u 96 (.ia 1 none (.k 94) (.k 95)) [0,1,2] 0,
 .u 97 (.ld false 1 .cp (.k 96)) [0,1,2] 2,
 .u 98 (.call n_c_law17_sorted [.k 97]) [0,1,2] 0,
 .o 99 (.ia 1 none (.k 91) (.k 92)),
 .s (.st 1 (.k 99) (.k 98))] true [1,2,3,5,7,84,85] [1,2,5])
 .skip))))
 (.reg [] [.o 100 (.bin .add (.k 85) (.c (.i .i64 1))),
 .o 85 (.mv (.k 100))] false [1,2,3,5,7,84,85] [1,2,5])))))))
 (.seq (.seq (.reg [] [.o 101 (.mv (.k 7)),
 .o 102 (.mv (.c (.i .i64 0)))] false [1,2,5,101,102] [1,2,5])
 (.blk 6 (.loop (.seq (.reg [] [.o 103 (.bin .lss (.t 102) (.t 101))] false [1,2,5,101,102,103] [1,2,5])
 (.seq (.cond 103 .skip
 (.exit 6))
 (.seq (.blk 7 (.seq (.reg [] [.o 104 (.mv (.t 102)),
 .o 10 (.mv (.k 104))] false [1,2,5,10,101,102] [1,2,5])
 (.seq (.reg [] [.o 11 (.mv (.c (.i .i64 0)))] false [1,2,5,10,11,101,102] [1,2,5])
 (.seq (.seq (.reg [] [.o 105 (.mv (.t 10)),
 .o 106 (.fa 4 (.t 1)),
 .o 107 (.ld false 1 .cp (.k 106)),
 .o 108 (.len false (.k 107)),
 .o 109 (.bin .lss (.k 105) (.k 108))] false [1,2,5,10,11,101,102,109] [1,2,5])
 (.cond 109 (.reg [] [.o 110 (.fa 4 (.t 1)),
 .o 111 (.ld false 1 .cp (.k 110)),
 .o 112 (.mv (.k 10)),
 .o 113 (.ia 1 none (.k 111) (.k 112)),
 .o 114 (.ld false 1 .cp (.k 113)),
 .o 115 (.bin .and (.k 114) (.c (.i .i64 1099511627775))),
 .o 11 (.mv (.k 115))] false [1,2,5,11,101,102] [1,2,5])
 .skip))
 (.reg [] [.o 116 (.fa 4 (.t 5)),
 .o 117 (.ld false 1 .tk (.k 116)),
 .o 118 (.mv (.k 11)),
 .o 119 (.bs 1 1 (.i .i64 0) [(0,.k 118)]),
 .o 120 (.app 1 8 (.k 117) (.k 119)),
 .o 121 (.fa 4 (.t 5)),
 .s (.st 1 (.k 121) (.k 120))] false [1,2,5,101,102] [1,2,5])))))
 (.reg [] [.o 122 (.bin .add (.k 102) (.c (.i .i64 1))),
 .o 102 (.mv (.k 122))] false [1,2,5,101,102] [1,2,5])))))))
 (.seq (.reg [] [.o 123 (.ld true 5 .tk (.k 5)),
 .s (.st 5 (.t 2) (.k 123))] false [2] [2])
 .ret)))))))))⟩

def F_c_ref02_Seal : F := ⟨1,[.inl 2],
 (.seq (.reg [] [.o 2 (.mv (.c (.s ⟨#[]⟩)))] false [0] [])
 (.seq (.reg [] [.o 3 (.mv (.t 0)),
 .o 4 (.mv (.k 0)),
 .o 5 (.call n_c_ref02_Sum [.k 4]),
 .o 6 (.call n_c_ref02_Word [.k 5]),
 .o 7 (.bin .add (.k 3) (.k 6)),
 .o 2 (.mv (.k 7))] false [2] [])
 .ret))⟩

def F_elder_Read : F := ⟨1,[.inr (2,true,5),.inl 3,.inl 4],
 (.seq (.reg [] [.o 2 (.al ([.i .i64 0,.i .i64 0,.i .u64 0,.l .o 1 [],.l .o 1 []])),
 .o 3 (.mv (.c (.i .i64 0))),
 .o 4 (.mv (.c (.i .i64 0)))] false [0,2] [2])
 (.seq (.reg [] [.o 9 (.mv (.t 0)),
 .o 10 (.call n_elder_Version [.k 9]),
 .o 8 (.mv (.k 10)),
 .o 11 (.ex false 0 8),
 .o 12 (.ex false 1 8),
 .o 5 (.mv (.k 11)),
 .o 6 (.mv (.k 12))] false [0,2,5,6] [2])
 (.seq (.seq (.reg [] [.o 13 (.mv (.t 6)),
 .o 14 (.bin .neq (.k 13) (.c (.i .i64 0)))] false [0,2,5,6,14] [2])
 (.cond 14 (.seq (.reg [] [.o 15 (.bd ([.i .i64 0,.i .i64 0,.i .u64 0,.l .o 1 [],.l .o 1 []]) []),
 .o 16 (.mv (.k 6)),
 .s (.st 5 (.t 2) (.k 15)),
 .o 3 (.mv (.c (.i .i64 0))),
 .o 4 (.mv (.k 16))] false [2,3,4] [2])
 .ret)
 .skip))
 (.seq (.reg [] [.o 18 (.mv (.t 5)),
 .o 19 (.mv (.k 0)),
 .o 20 (.call n_elder_read [.k 18,.k 19]),
 .o 17 (.mv (.k 20)),
 .o 21 (.ex false 0 17),
 .o 22 (.ex false 1 17),
 .o 7 (.al ([.i .i64 0,.i .i64 0,.i .u64 0,.l .o 1 [],.l .o 1 []])),
 .s (.st 5 (.t 7) (.k 21)),
 .o 6 (.mv (.k 22))] false [2,5,6,7] [2,7])
 (.seq (.seq (.reg [] [.o 23 (.mv (.t 6)),
 .o 24 (.bin .neq (.k 23) (.c (.i .i64 0)))] false [2,5,6,7,24] [2,7])
 (.cond 24 (.seq (.reg [] [.o 25 (.bd ([.i .i64 0,.i .i64 0,.i .u64 0,.l .o 1 [],.l .o 1 []]) []),
 .o 26 (.mv (.k 6)),
 .s (.st 5 (.t 2) (.k 25)),
 .o 3 (.mv (.c (.i .i64 0))),
 .o 4 (.mv (.k 26))] false [2,3,4] [2])
 .ret)
 .skip))
 (.seq (.reg [] [.o 27 (.ld true 5 .tk (.k 7)),
 .o 28 (.mv (.k 5)),
 .s (.st 5 (.t 2) (.k 27)),
 .o 3 (.mv (.k 28)),
 .o 4 (.mv (.c (.i .i64 0)))] false [2,3,4] [2])
 .ret))))))⟩

def F_elder_Write : F := ⟨2,[.inl 4,.inl 5],
 (.seq (.reg [.zz 0] [.o 2 (.bx (.k 0)),
 .o 4 (.mv (.c (.s ⟨#[]⟩))),
 .o 5 (.mv (.c (.i .i64 0)))] false [1,2] [2])
 (.seq (.seq (.reg [] [.z 8 (.ld true 5 .cp (.t 2)) 2,
 .o 9 (.call n_image_Image_Check [.k 8]),
 .o 6 (.mv (.k 9))] false [1,2,6] [2])
 (.seq (.reg [] [.o 10 (.mv (.t 6)),
 .o 11 (.bin .neq (.k 10) (.c (.i .i64 0)))] false [1,2,6,11] [2])
 (.cond 11 (.seq (.reg [] [.o 12 (.mv (.k 6)),
 .o 4 (.mv (.c (.s ⟨#[]⟩))),
 .o 5 (.mv (.k 12))] false [4,5] [])
 .ret)
 .skip)))
 (.seq (.reg [] [.o 13 (.mv (.t 1)),
 .o 14 (.cv (.int .u8) (.k 13)),
 .o 15 (.fa 0 (.t 2)),
 .o 16 (.ld false 1 .cp (.k 15)),
 .o 17 (.cv (.int .u8) (.k 16)),
 .z 18 (.bs 1 2 (.i .u8 0) [(0,.k 14),(1,.k 17)]) 1,
 .o 19 (.cv .str (.k 18)),
 .o 20 (.bin .add (.c (.s ⟨#[67,82,89,79]⟩)) (.k 19)),
 .o 7 (.mv (.k 20))] false [1,2,7] [2])
 (.seq (.seq (.reg [] [.o 21 (.mv (.k 1))] false [2,7,21] [2])
 (.blk 0 (.seq (.reg [] [.o 23 (.bin .eql (.t 21) (.c (.i .i64 1))),
 .o 22 (.mv (.k 23))] false [2,7,21,22] [2])
 (.cond 22 (.seq (.reg [] [.o 24 (.mv (.k 7)),
 .z 25 (.ld true 5 .tk (.k 2)) 2,
 .o 26 (.call n_elder_one [.k 25]),
 .o 27 (.cv .str (.k 26)),
 .o 28 (.bin .add (.k 24) (.k 27)),
 .o 4 (.mv (.k 28)),
 .o 5 (.mv (.c (.i .i64 0)))] false [4,5] [])
 .ret)
 (.seq (.reg [] [.o 30 (.bin .eql (.t 21) (.c (.i .i64 2))),
 .o 29 (.mv (.k 30))] false [2,7,21,29] [2])
 (.cond 29 (.seq (.reg [] [.o 31 (.call n_crc_Make []),
 .u 32 (.mv (.k 7)) [0] 0,
 .u 33 (.ld true 5 .cp (.k 2)) [0,1] 2,
 .u 34 (.call n_elder_two [.k 33]) [1] 0,
 .u 35 (.cv .str (.k 34)) [1] 0,
 .o 36 (.bin .add (.k 32) (.k 35)),
 .o 37 (.call n_crc_Table_Seal [.k 31,.k 36]),
 .o 4 (.mv (.k 37)),
 .o 5 (.mv (.c (.i .i64 0)))] true [4,5] [])
 .ret)
 (.seq (.reg [] [.o 39 (.bin .eql (.t 21) (.c (.i .i64 3))),
 .o 38 (.mv (.k 39))] false [2,7,21,38] [2])
 (.cond 38 (.seq (.reg [] [.o 40 (.call n_crc_Make []),
 .u 41 (.mv (.k 7)) [0] 0,
 .u 42 (.ld true 5 .cp (.k 2)) [0,1] 2,
 .u 43 (.call n_elder_three [.k 42]) [1] 0,
 .u 44 (.cv .str (.k 43)) [1] 0,
 .o 45 (.bin .add (.k 41) (.k 44)),
 .o 46 (.call n_crc_Table_Seal [.k 40,.k 45]),
 .o 4 (.mv (.k 46)),
 .o 5 (.mv (.c (.i .i64 0)))] true [4,5] [])
 .ret)
 (.seq (.reg [] [.o 48 (.bin .eql (.k 21) (.c (.i .i64 4))),
 .o 47 (.mv (.k 48))] false [2,47] [2])
 (.cond 47 (.seq (.reg [] [.z 49 (.ld true 5 .tk (.k 2)) 2,
 .o 50 (.call n_file_Encode [.k 49]),
 .o 51 (.ex false 0 50),
 .o 52 (.ex false 1 50),
 .o 4 (.mv (.k 51)),
 .o 5 (.mv (.k 52))] false [4,5] [])
 .ret)
 .skip))))))))))
 (.seq (.reg [] [.o 4 (.mv (.c (.s ⟨#[]⟩))),
 .o 5 (.mv (.c (.i .i64 8)))] false [4,5] [])
 .ret)))))⟩

def F_image_Image_Value : F := ⟨1,[.inr (2,true,3)],
 (.seq (.reg [.zz 0] [.o 1 (.bx (.k 0)),
 .o 2 (.al ([.i .i64 0,.l .o 2 [],.i .i64 0]))] false [1,2] [1,2])
 (.seq (.reg [] [.o 8 (.fa 0 (.t 1)),
 .o 9 (.ld false 1 .cp (.k 8)),
 .o 10 (.bd ([.i .i64 0,.l .o 2 [],.i .i64 0]) [(0,1,.k 9)]),
 .o 3 (.al ([.i .i64 0,.l .o 2 [],.i .i64 0])),
 .s (.st 3 (.t 3) (.k 10))] false [1,2,3] [1,2,3])
 (.seq (.seq (.reg [] [.o 11 (.fa 3 (.t 1)),
 .o 12 (.ld false 1 .cp (.k 11)),
 .o 13 (.len false (.t 12)),
 .o 14 (.mv (.c (.i .i64 0)))] false [1,2,3,12,13,14] [1,2,3])
 (.blk 0 (.loop (.seq (.reg [] [.o 15 (.bin .lss (.t 14) (.t 13))] false [1,2,3,12,13,14,15] [1,2,3])
 (.seq (.cond 15 .skip
 (.exit 0))
 (.seq (.blk 1 (.seq (.reg [] [.o 16 (.ia 1 none (.t 12) (.t 14)),
 .o 17 (.ld false 1 .cp (.k 16)),
 .o 5 (.mv (.k 17))] false [1,2,3,5,12,13,14] [1,2,3])
 (.reg [] [.o 18 (.fa 1 (.t 3)),
 .o 19 (.ld false 1 .tk (.k 18)),
 .o 20 (.mv (.k 5)),
 .z 21 (.app 2 16 (.k 19) (.k 20)) 1,
 .o 22 (.fa 1 (.t 3)),
 .s (.st 1 (.k 22) (.k 21))] false [1,2,3,12,13,14] [1,2,3])))
 (.reg [] [.o 23 (.bin .add (.k 14) (.c (.i .i64 1))),
 .o 14 (.mv (.k 23))] false [1,2,3,12,13,14] [1,2,3])))))))
 (.seq (.seq (.reg [] [.o 24 (.fa 0 (.t 1)),
 .o 25 (.ld false 1 .cp (.k 24)),
 .o 26 (.bin .eql (.k 25) (.c (.i .i64 1)))] false [1,2,3,26] [1,2,3])
 (.cond 26 (.reg [] [.o 27 (.fa 1 (.t 3)),
 .z 28 (.ld false 1 .cp (.k 27)) 2,
 .o 29 (.call n_pile_Sorted [.k 28]),
 .o 30 (.fa 1 (.t 3)),
 .s (.st 1 (.k 30) (.k 29))] false [1,2,3] [1,2,3])
 .skip))
 (.seq (.seq (.reg [] [.o 31 (.fa 4 (.k 1)),
 .o 32 (.ld false 1 .tk (.k 31)),
 .o 33 (.len false (.t 32)),
 .o 34 (.mv (.c (.i .i64 0)))] false [2,3,32,33,34] [2,3])
 (.blk 2 (.loop (.seq (.reg [] [.o 35 (.bin .lss (.t 34) (.t 33))] false [2,3,32,33,34,35] [2,3])
 (.seq (.cond 35 .skip
 (.exit 2))
 (.seq (.blk 3 (.seq (.reg [] [.o 36 (.ia 1 none (.t 32) (.t 34)),
 .o 37 (.ld false 1 .cp (.k 36)),
 .o 7 (.mv (.k 37))] false [2,3,7,32,33,34] [2,3])
 (.reg [] [.o 38 (.fa 2 (.t 3)),
 .o 39 (.ld false 1 .cp (.k 38)),
 .o 40 (.mv (.k 7)),
 .o 41 (.bin .add (.k 39) (.k 40)),
 .o 42 (.fa 2 (.t 3)),
 .s (.st 1 (.k 42) (.k 41))] false [2,3,32,33,34] [2,3])))
 (.reg [] [.o 43 (.bin .add (.k 34) (.c (.i .i64 1))),
 .o 34 (.mv (.k 43))] false [2,3,32,33,34] [2,3])))))))
 (.seq (.reg [] [.o 44 (.ld true 3 .tk (.k 3)),
 .s (.st 3 (.t 2) (.k 44))] false [2] [2])
 .ret))))))⟩

def F_value_Value_Same : F := ⟨2,[.inl 4],
 (.seq (.reg [.zz 0,.zz 1] [.o 2 (.bx (.k 0)),
 .o 3 (.bx (.k 1)),
 .o 4 (.mv (.c (.b false)))] false [2,3] [2,3])
 (.seq (.reg [] [.o 5 (.fa 0 (.t 2)),
 .o 6 (.ld false 1 .cp (.k 5)),
 .o 7 (.fa 0 (.t 3)),
 .o 8 (.ld false 1 .cp (.k 7)),
 .o 9 (.bin .eql (.k 6) (.k 8)),
 .o 10 (.mv (.k 9)),
 .c 10 true 11 (.fa 2 (.t 2)),
 .c 10 true 12 (.ld false 1 .cp (.k 11)),
 .c 10 true 13 (.fa 2 (.t 3)),
 .c 10 true 14 (.ld false 1 .cp (.k 13)),
 .c 10 true 15 (.bin .eql (.k 12) (.k 14)),
 .o 16 (.pick (.k 10) (.k 15) (.c (.b false))),
 .o 17 (.mv (.k 16)),
 .c 17 true 18 (.fa 1 (.k 2)),
 ⟨some 19,some (17,true),.ld false 1 .tk (.k 18),[],2⟩,
 .c 17 true 20 (.fa 1 (.k 3)),
 ⟨some 21,some (17,true),.ld false 1 .tk (.k 20),[],2⟩,
 .c 17 true 22 (.call n_slices_EqualFunc_pile_Item_pile_Item_pile_Item_pile_Item_1 [.k 19,.k 21,.c (.fn n_value_Value_Same_1 [])]),
 .o 23 (.pick (.k 17) (.k 22) (.c (.b false))),
 .o 4 (.mv (.k 23))] false [4] [])
 .ret))⟩

def F_c_law22_awake : F := ⟨0,[.inl 0],
 (.seq (.reg [] [.o 0 (.mv (.c (.b false)))] false [] [])
 (.seq (.reg [] [.z 8 (.bs 1 1 (.i .i64 0) [(0,.c (.i .i64 5))]) 1,
 .z 9 (.bd ([.i .i64 0,.i .i64 0,.i .u64 0,.l .o 1 [],.l .o 1 []]) [(0,1,.c (.i .i64 4)),(1,1,.c (.i .i64 4)),(4,1,.k 8)]) 2,
 .o 10 (.call n_file_Encode [.k 9]),
 .o 7 (.mv (.k 10)),
 .o 11 (.ex false 0 7),
 .o 12 (.ex false 1 7),
 .o 1 (.mv (.k 11)),
 .o 2 (.mv (.k 12))] false [1] [])
 (.seq (.reg [] [.o 14 (.mv (.t 1)),
 .o 15 (.call n_upgrade_Step [.k 14]),
 .o 13 (.mv (.k 15)),
 .o 16 (.ex false 0 13),
 .o 17 (.ex false 1 13),
 .o 3 (.mv (.k 16)),
 .o 4 (.mv (.k 17))] false [1,4] [])
 (.seq (.reg [] [.o 19 (.call n_upgrade_All [.c (.s ⟨#[67,82,89,79,1,4,4,5,0,0,0,0,0,0,0]⟩)]),
 .o 18 (.mv (.k 19)),
 .o 20 (.ex false 0 18),
 .o 21 (.ex false 1 18),
 .o 5 (.mv (.k 20)),
 .o 6 (.mv (.k 21))] false [1,4,5,6] [])
 (.seq (.reg [] [.o 22 (.mv (.k 4)),
 .o 23 (.bin .eql (.k 22) (.c (.i .i64 12))),
 .o 24 (.mv (.k 23)),
 .c 24 true 25 (.mv (.k 6)),
 .c 24 true 26 (.bin .eql (.k 25) (.c (.i .i64 0))),
 .o 27 (.pick (.k 24) (.k 26) (.c (.b false))),
 .o 28 (.mv (.k 27)),
 .c 28 true 29 (.mv (.k 5)),
 .c 28 true 30 (.mv (.t 1)),
 .c 28 true 31 (.bin .eql (.k 29) (.k 30)),
 .o 32 (.pick (.k 28) (.k 31) (.c (.b false))),
 .o 33 (.mv (.k 32)),
 .c 33 true 34 (.mv (.k 1)),
 .c 33 true 35 (.bin .neq (.k 34) (.c (.s ⟨#[]⟩))),
 .o 36 (.pick (.k 33) (.k 35) (.c (.b false))),
 .o 0 (.mv (.k 36))] false [0] [])
 .ret)))))⟩

def F_upgrade_All : F := ⟨1,[.inl 2,.inl 3],
 (.seq (.reg [] [.o 2 (.mv (.c (.s ⟨#[]⟩))),
 .o 3 (.mv (.c (.i .i64 0)))] false [0] [])
 (.seq (.reg [] [.o 8 (.mv (.t 0)),
 .o 9 (.call n_elder_Read [.k 8]),
 .o 7 (.mv (.k 9)),
 .o 10 (.ex false 0 7),
 .o 11 (.ex false 1 7),
 .o 12 (.ex false 2 7),
 .o 4 (.al ([.i .i64 0,.i .i64 0,.i .u64 0,.l .o 1 [],.l .o 1 []])),
 .s (.st 5 (.k 4) (.k 10)),
 .o 5 (.mv (.k 11)),
 .o 6 (.mv (.k 12))] false [0,5,6] [])
 (.seq (.seq (.reg [] [.o 13 (.mv (.t 6)),
 .o 14 (.bin .neq (.k 13) (.c (.i .i64 0)))] false [0,5,6,14] [])
 (.cond 14 (.seq (.reg [] [.o 15 (.mv (.k 6)),
 .o 2 (.mv (.c (.s ⟨#[]⟩))),
 .o 3 (.mv (.k 15))] false [2,3] [])
 .ret)
 .skip))
 (.seq (.blk 0 (.loop (.seq (.seq (.reg [] [.o 16 (.mv (.t 5)),
 .o 17 (.bin .lss (.k 16) (.c (.i .i64 4)))] false [0,5,17] [])
 (.cond 17 .skip
 (.exit 0)))
 (.seq (.blk 1 (.seq (.reg [] [.o 21 (.mv (.k 0)),
 .o 22 (.call n_upgrade_Step [.k 21]),
 .o 20 (.mv (.k 22)),
 .o 23 (.ex false 0 20),
 .o 24 (.ex false 1 20),
 .o 0 (.mv (.k 23)),
 .o 6 (.mv (.k 24))] false [0,5,6] [])
 (.seq (.reg [] [.o 25 (.mv (.t 6)),
 .o 26 (.bin .neq (.k 25) (.c (.i .i64 0)))] false [0,5,6,26] [])
 (.cond 26 (.seq (.reg [] [.o 27 (.mv (.k 6)),
 .o 2 (.mv (.c (.s ⟨#[]⟩))),
 .o 3 (.mv (.k 27))] false [2,3] [])
 .ret)
 .skip))))
 (.reg [] [.o 18 (.mv (.k 5)),
 .o 19 (.bin .add (.k 18) (.c (.i .i64 1))),
 .o 5 (.mv (.k 19))] false [0,5] [])))))
 (.seq (.reg [] [.o 28 (.mv (.k 0)),
 .o 2 (.mv (.k 28)),
 .o 3 (.mv (.c (.i .i64 0)))] false [2,3] [])
 .ret)))))⟩

def F_upgrade_Step : F := ⟨1,[.inl 2,.inl 3],
 (.seq (.reg [] [.o 2 (.mv (.c (.s ⟨#[]⟩))),
 .o 3 (.mv (.c (.i .i64 0)))] false [0] [])
 (.seq (.reg [] [.o 8 (.mv (.k 0)),
 .o 9 (.call n_elder_Read [.k 8]),
 .o 7 (.mv (.k 9)),
 .o 10 (.ex false 0 7),
 .o 11 (.ex false 1 7),
 .o 12 (.ex false 2 7),
 .o 4 (.al ([.i .i64 0,.i .i64 0,.i .u64 0,.l .o 1 [],.l .o 1 []])),
 .s (.st 5 (.t 4) (.k 10)),
 .o 5 (.mv (.k 11)),
 .o 6 (.mv (.k 12))] false [4,5,6] [4])
 (.seq (.blk 0 (.seq (.reg [] [.o 14 (.mv (.t 6)),
 .o 15 (.bin .neq (.k 14) (.c (.i .i64 0))),
 .o 13 (.mv (.k 15))] false [4,5,6,13] [4])
 (.cond 13 (.seq (.reg [] [.o 16 (.mv (.k 6)),
 .o 2 (.mv (.c (.s ⟨#[]⟩))),
 .o 3 (.mv (.k 16))] false [2,3] [])
 .ret)
 (.seq (.reg [] [.o 18 (.mv (.t 5)),
 .o 19 (.bin .eql (.k 18) (.c (.i .i64 4))),
 .o 17 (.mv (.k 19))] false [4,5,17] [4])
 (.cond 17 (.seq (.reg [] [.o 2 (.mv (.c (.s ⟨#[]⟩))),
 .o 3 (.mv (.c (.i .i64 12)))] false [2,3] [])
 .ret)
 .skip)))))
 (.seq (.reg [] [.z 20 (.ld true 5 .tk (.k 4)) 2,
 .o 21 (.mv (.k 5)),
 .o 22 (.bin .add (.k 21) (.c (.i .i64 1))),
 .o 23 (.call n_elder_Write [.k 20,.k 22]),
 .o 24 (.ex false 0 23),
 .o 25 (.ex false 1 23),
 .o 2 (.mv (.k 24)),
 .o 3 (.mv (.k 25))] false [2,3] [])
 .ret))))⟩

def F_file_Decode : F := ⟨1,[.inr (2,true,5),.inl 3],
 (.seq (.reg [] [.o 2 (.al ([.i .i64 0,.i .i64 0,.i .u64 0,.l .o 1 [],.l .o 1 []])),
 .o 3 (.mv (.c (.i .i64 0)))] false [0,2] [2])
 (.seq (.reg [] [.o 9 (.call n_crc_Make []),
 .o 10 (.bd ([.nilp,.s ⟨#[]⟩,.l .o 2 []]) [(0,1,.k 9)]),
 .o 11 (.bg (.k 10)),
 .o 4 (.mv (.k 11))] false [0,2,4] [2])
 (.seq (.reg [] [.o 13 (.mv (.t 4)),
 .o 14 (.mv (.k 0)),
 .o 15 (.call n_file_reader_begin [.k 13,.k 14]),
 .o 12 (.mv (.k 15)),
 .o 16 (.ex false 0 12),
 .o 17 (.ex false 1 12),
 .o 18 (.ex false 2 12),
 .o 5 (.mv (.k 16)),
 .o 6 (.mv (.k 17)),
 .o 7 (.mv (.k 18))] false [2,4,5,6,7] [2])
 (.seq (.seq (.reg [] [.o 19 (.mv (.t 7)),
 .o 20 (.bin .eql (.k 19) (.c (.i .i64 0)))] false [2,4,5,6,7,20] [2])
 (.cond 20 (.reg [] [.o 21 (.mv (.t 4)),
 .o 22 (.mv (.k 5)),
 .o 23 (.call n_file_reader_sections [.k 21,.k 22]),
 .o 7 (.mv (.k 23))] false [2,4,6,7] [2])
 .skip))
 (.seq (.reg [] [.o 8 (.al ([.i .i64 0,.i .i64 0,.i .u64 0,.l .o 1 [],.l .o 1 []]))] false [2,4,6,7,8] [2,8])
 (.seq (.seq (.reg [] [.o 24 (.mv (.t 7)),
 .o 25 (.bin .eql (.k 24) (.c (.i .i64 0)))] false [2,4,6,7,8,25] [2,8])
 (.cond 25 (.reg [] [.o 27 (.mv (.k 6)),
 .o 28 (.mv (.k 4)),
 .o 29 (.nc (.k 28)),
 .o 30 (.fa 2 (.k 29)),
 .z 31 (.ld false 1 .cp (.k 30)) 2,
 .o 32 (.call n_section_Read [.k 27,.k 31]),
 .o 26 (.mv (.k 32)),
 .o 33 (.ex false 0 26),
 .o 34 (.ex false 1 26),
 .s (.st 5 (.t 8) (.k 33)),
 .o 7 (.mv (.k 34))] false [2,7,8] [2,8])
 .skip))
 (.seq (.seq (.reg [] [.o 35 (.mv (.t 7)),
 .o 36 (.bin .eql (.k 35) (.c (.i .i64 0)))] false [2,7,8,36] [2,8])
 (.cond 36 (.reg [] [.z 37 (.ld true 5 .cp (.t 8)) 2,
 .o 38 (.call n_image_Image_Check [.k 37]),
 .o 7 (.mv (.k 38))] false [2,7,8] [2,8])
 .skip))
 (.seq (.seq (.reg [] [.o 39 (.mv (.t 7)),
 .o 40 (.bin .neq (.k 39) (.c (.i .i64 0)))] false [2,7,8,40] [2,8])
 (.cond 40 (.seq (.reg [] [.o 41 (.bd ([.i .i64 0,.i .i64 0,.i .u64 0,.l .o 1 [],.l .o 1 []]) []),
 .o 42 (.mv (.k 7)),
 .s (.st 5 (.t 2) (.k 41)),
 .o 3 (.mv (.k 42))] false [2,3] [2])
 .ret)
 .skip))
 (.seq (.reg [] [.o 43 (.ld true 5 .tk (.k 8)),
 .s (.st 5 (.t 2) (.k 43)),
 .o 3 (.mv (.c (.i .i64 0)))] false [2,3] [2])
 .ret)))))))))⟩

def F_elder_Version : F := ⟨1,[.inl 2,.inl 3],
 (.seq (.reg [] [.o 2 (.mv (.c (.i .i64 0))),
 .o 3 (.mv (.c (.i .i64 0)))] false [0] [])
 (.seq (.blk 0 (.seq (.reg [] [.o 6 (.mv (.t 0)),
 .o 7 (.call n_strings_HasPrefix [.k 6,.c (.s ⟨#[67,82,89,79]⟩)]),
 .o 8 (.un .not (.k 7)),
 .o 5 (.mv (.k 8))] false [0,5] [])
 (.cond 5 (.seq (.reg [] [.o 2 (.mv (.c (.i .i64 0))),
 .o 3 (.mv (.c (.i .i64 10)))] false [2,3] [])
 .ret)
 (.seq (.reg [] [.o 10 (.mv (.t 0)),
 .o 11 (.len true (.k 10)),
 .o 12 (.bin .gtr (.k 11) (.c (.i .i64 65536))),
 .o 9 (.mv (.k 12))] false [0,9] [])
 (.cond 9 (.seq (.reg [] [.o 2 (.mv (.c (.i .i64 0))),
 .o 3 (.mv (.c (.i .i64 3)))] false [2,3] [])
 .ret)
 (.seq (.reg [] [.o 14 (.mv (.t 0)),
 .o 15 (.len true (.k 14)),
 .o 16 (.bin .eql (.k 15) (.c (.i .i64 4))),
 .o 13 (.mv (.k 16))] false [0,13] [])
 (.cond 13 (.seq (.reg [] [.o 2 (.mv (.c (.i .i64 0))),
 .o 3 (.mv (.c (.i .i64 1)))] false [2,3] [])
 .ret)
 .skip)))))))
 (.seq (.reg [] [.o 17 (.mv (.k 0)),
 .o 18 (.ixs (.k 17) (.c (.i .i64 4))),
 .o 19 (.cv (.int .i64) (.k 18)),
 .o 4 (.mv (.k 19))] false [4] [])
 (.seq (.seq (.reg [] [.o 20 (.mv (.t 4)),
 .o 21 (.bin .lss (.k 20) (.c (.i .i64 1))),
 .o 22 (.mv (.k 21)),
 .c 22 false 23 (.mv (.t 4)),
 .c 22 false 24 (.bin .gtr (.k 23) (.c (.i .i64 4))),
 .o 25 (.pick (.k 22) (.c (.b true)) (.k 24))] false [4,25] [])
 (.cond 25 (.seq (.reg [] [.o 2 (.mv (.c (.i .i64 0))),
 .o 3 (.mv (.c (.i .i64 8)))] false [2,3] [])
 .ret)
 .skip))
 (.seq (.reg [] [.o 26 (.mv (.k 4)),
 .o 2 (.mv (.k 26)),
 .o 3 (.mv (.c (.i .i64 0)))] false [2,3] [])
 .ret)))))⟩

def F_c_ref01_Num2 : F := ⟨1,[.inl 2],
 (.seq (.reg [] [.o 2 (.mv (.c (.s ⟨#[]⟩)))] false [0] [])
 (.seq (.reg [] [.z 4 (.bs 1 0 (.i .u8 0) []) 1,
 .o 3 (.mv (.k 4))] false [0,3] [])
 (.seq (.blk 0 (.loop (.seq (.seq (.reg [] [.o 5 (.mv (.t 0)),
 .o 6 (.bin .geq (.k 5) (.c (.i .u64 128)))] false [0,3,6] [])
 (.cond 6 .skip
 (.exit 0)))
 (.blk 1 (.seq (.reg [] [.o 7 (.mv (.k 3)),
 .o 8 (.mv (.t 0)),
 .o 9 (.bin .rem (.k 8) (.c (.i .u64 128))),
 .o 10 (.bin .add (.k 9) (.c (.i .u64 128))),
 .o 11 (.cv (.int .u8) (.k 10)),
 .o 12 (.bs 1 1 (.i .u8 0) [(0,.k 11)]),
 .z 13 (.app 1 1 (.k 7) (.k 12)) 1,
 .o 3 (.mv (.k 13))] false [0,3] [])
 (.reg [] [.o 14 (.mv (.k 0)),
 .o 15 (.bin .quo (.k 14) (.c (.i .u64 128))),
 .o 0 (.mv (.k 15))] false [0,3] []))))))
 (.seq (.reg [] [.o 16 (.mv (.k 3)),
 .o 17 (.mv (.k 0)),
 .o 18 (.cv (.int .u8) (.k 17)),
 .o 19 (.bs 1 1 (.i .u8 0) [(0,.k 18)]),
 .z 20 (.app 1 1 (.k 16) (.k 19)) 1,
 .o 21 (.cv .str (.k 20)),
 .o 2 (.mv (.k 21))] false [2] [])
 .ret))))⟩

def F_c_ref17_Value : F := ⟨1,[.inr (2,true,3)],
 (.seq (.reg [.zz 0] [.o 1 (.bx (.k 0)),
 .o 2 (.al ([.i .i64 0,.l .o 2 [],.i .i64 0]))] false [1,2] [1,2])
 (.seq (.reg [] [.o 10 (.fa 0 (.t 1)),
 .o 11 (.ld false 1 .cp (.k 10)),
 .o 12 (.bd ([.i .i64 0,.l .o 2 [],.i .i64 0]) [(0,1,.k 11)]),
 .o 3 (.al ([.i .i64 0,.l .o 2 [],.i .i64 0])),
 .s (.st 3 (.t 3) (.k 12))] false [1,2,3] [1,2,3])
 (.seq (.seq (.reg [] [.o 13 (.fa 3 (.t 1)),
 .o 14 (.ld false 1 .cp (.k 13)),
 .o 15 (.len false (.t 14)),
 .o 16 (.mv (.c (.i .i64 0)))] false [1,2,3,14,15,16] [1,2,3])
 (.blk 0 (.loop (.seq (.reg [] [.o 17 (.bin .lss (.t 16) (.t 15))] false [1,2,3,14,15,16,17] [1,2,3])
 (.seq (.cond 17 .skip
 (.exit 0))
 (.seq (.blk 1 (.seq (.reg [] [.o 18 (.ia 1 none (.t 14) (.t 16)),
 .o 19 (.ld false 1 .cp (.k 18)),
 .o 5 (.mv (.k 19))] false [1,2,3,5,14,15,16] [1,2,3])
 (.seq (.reg [] [.o 20 (.mv (.k 5)),
 .o 21 (.len false (.t 20)),
 .o 22 (.mv (.c (.i .i64 0)))] false [1,2,3,14,15,16,20,21,22] [1,2,3])
 (.blk 2 (.loop (.seq (.reg [] [.o 23 (.bin .lss (.t 22) (.t 21))] false [1,2,3,14,15,16,20,21,22,23] [1,2,3])
 (.seq (.cond 23 .skip
 (.exit 2))
 (.seq (.blk 3 (.seq (.reg [] [.o 24 (.ia 2 none (.t 20) (.t 22)),
 .o 25 (.ld true 2 .cp (.k 24)),
 .o 7 (.al ([.i .u64 0,.i .i64 0])),
 .s (.st 2 (.t 7) (.k 25))] false [1,2,3,7,14,15,16,20,21,22] [1,2,3,7])
 (.seq (.reg [] [.o 26 (.fa 0 (.t 1)),
 .o 27 (.ld false 1 .cp (.k 26)),
 .o 28 (.bin .eql (.k 27) (.c (.i .i64 1)))] false [1,2,3,7,14,15,16,20,21,22,28] [1,2,3,7])
 (.cond 28 (.reg [] [.o 29 (.fa 1 (.t 3)),
 .z 30 (.ld false 1 .cp (.k 29)) 2,
 .o 31 (.ld true 2 .cp (.k 7)),
 .o 32 (.call n_c_ref04_With [.k 30,.k 31]),
 .o 33 (.fa 1 (.t 3)),
 .s (.st 1 (.k 33) (.k 32))] false [1,2,3,14,15,16,20,21,22] [1,2,3])
 (.reg [] [.o 34 (.fa 1 (.t 3)),
 .o 35 (.ld false 1 .tk (.k 34)),
 .o 36 (.ld true 2 .cp (.k 7)),
 .o 37 (.bs 2 1 (.a ([.i .u64 0,.i .i64 0])) [(0,.k 36)]),
 .z 38 (.app 2 16 (.k 35) (.k 37)) 1,
 .o 39 (.fa 1 (.t 3)),
 .s (.st 1 (.k 39) (.k 38))] false [1,2,3,14,15,16,20,21,22] [1,2,3])))))
 (.reg [] [.o 40 (.bin .add (.k 22) (.c (.i .i64 1))),
 .o 22 (.mv (.k 40))] false [1,2,3,14,15,16,20,21,22] [1,2,3])))))))))
 (.reg [] [.o 41 (.bin .add (.k 16) (.c (.i .i64 1))),
 .o 16 (.mv (.k 41))] false [1,2,3,14,15,16] [1,2,3])))))))
 (.seq (.seq (.reg [] [.o 42 (.fa 4 (.k 1)),
 .o 43 (.ld false 1 .tk (.k 42)),
 .o 44 (.len false (.t 43)),
 .o 45 (.mv (.c (.i .i64 0)))] false [2,3,43,44,45] [2,3])
 (.blk 4 (.loop (.seq (.reg [] [.o 46 (.bin .lss (.t 45) (.t 44))] false [2,3,43,44,45,46] [2,3])
 (.seq (.cond 46 .skip
 (.exit 4))
 (.seq (.blk 5 (.seq (.reg [] [.o 47 (.ia 1 none (.t 43) (.t 45)),
 .o 48 (.ld false 1 .cp (.k 47)),
 .o 9 (.mv (.k 48))] false [2,3,9,43,44,45] [2,3])
 (.reg [] [.o 49 (.fa 2 (.t 3)),
 .o 50 (.ld false 1 .cp (.k 49)),
 .o 51 (.mv (.k 9)),
 .o 52 (.bin .add (.k 50) (.k 51)),
 .o 53 (.fa 2 (.t 3)),
 .s (.st 1 (.k 53) (.k 52))] false [2,3,43,44,45] [2,3])))
 (.reg [] [.o 54 (.bin .add (.k 45) (.c (.i .i64 1))),
 .o 45 (.mv (.k 54))] false [2,3,43,44,45] [2,3])))))))
 (.seq (.reg [] [.o 55 (.ld true 3 .tk (.k 3)),
 .s (.st 3 (.t 2) (.k 55))] false [2] [2])
 .ret)))))⟩

def F_c_ref01_Fixed : F := ⟨2,[.inl 4],
 (.seq (.reg [] [.o 4 (.mv (.c (.s ⟨#[]⟩)))] false [0,1] [])
 (.seq (.reg [] [.z 7 (.bs 1 0 (.i .u8 0) []) 1,
 .o 5 (.mv (.k 7))] false [0,1,5] [])
 (.seq (.seq (.reg [] [.o 6 (.mv (.c (.i .i64 0)))] false [0,1,5,6] [])
 (.blk 0 (.loop (.seq (.seq (.reg [] [.o 8 (.mv (.t 6)),
 .o 9 (.mv (.t 1)),
 .o 10 (.bin .lss (.k 8) (.k 9))] false [0,1,5,6,10] [])
 (.cond 10 .skip
 (.exit 0)))
 (.seq (.blk 1 (.seq (.reg [] [.o 13 (.mv (.k 5)),
 .o 14 (.mv (.t 0)),
 .o 15 (.bin .rem (.k 14) (.c (.i .u64 256))),
 .o 16 (.cv (.int .u8) (.k 15)),
 .o 17 (.bs 1 1 (.i .u8 0) [(0,.k 16)]),
 .z 18 (.app 1 1 (.k 13) (.k 17)) 1,
 .o 5 (.mv (.k 18))] false [0,1,5,6] [])
 (.reg [] [.o 19 (.mv (.k 0)),
 .o 20 (.bin .quo (.k 19) (.c (.i .u64 256))),
 .o 0 (.mv (.k 20))] false [0,1,5,6] [])))
 (.reg [] [.o 11 (.mv (.k 6)),
 .o 12 (.bin .add (.k 11) (.c (.i .i64 1))),
 .o 6 (.mv (.k 12))] false [0,1,5,6] []))))))
 (.seq (.reg [] [.o 21 (.mv (.k 5)),
 .o 22 (.cv .str (.k 21)),
 .o 4 (.mv (.k 22))] false [4] [])
 .ret))))⟩

def F_c_ref01_Int : F := ⟨1,[.inl 2],
 (.seq (.reg [] [.o 2 (.mv (.c (.s ⟨#[]⟩)))] false [0] [])
 (.seq (.seq (.reg [] [.o 3 (.mv (.t 0)),
 .o 4 (.bin .geq (.k 3) (.c (.i .i64 0)))] false [0,4] [])
 (.cond 4 (.seq (.reg [] [.o 5 (.mv (.k 0)),
 .o 6 (.cv (.int .u64) (.k 5)),
 .o 7 (.bin .mul (.k 6) (.c (.i .u64 2))),
 .o 8 (.call n_c_ref01_Num2 [.k 7]),
 .o 2 (.mv (.k 8))] false [2] [])
 .ret)
 .skip))
 (.seq (.reg [] [.o 9 (.mv (.k 0)),
 .o 10 (.bin .add (.k 9) (.c (.i .i64 1))),
 .o 11 (.un .neg (.k 10)),
 .o 12 (.cv (.int .u64) (.k 11)),
 .o 13 (.bin .mul (.k 12) (.c (.i .u64 2))),
 .o 14 (.bin .add (.k 13) (.c (.i .u64 1))),
 .o 15 (.call n_c_ref01_Num2 [.k 14]),
 .o 2 (.mv (.k 15))] false [2] [])
 .ret)))⟩

def F_c_ref19_Meta : F := ⟨1,[.inl 2],
 (.seq (.reg [.zz 0] [.o 1 (.bx (.k 0)),
 .o 2 (.mv (.c (.s ⟨#[]⟩)))] false [1] [1])
 (.seq (.reg [] [.o 3 (.fa 1 (.t 1)),
 .o 4 (.ld false 1 .cp (.k 3)),
 .o 5 (.cv (.int .u64) (.k 4)),
 .o 6 (.call n_c_ref01_Num2 [.k 5]),
 .u 7 (.fa 2 (.t 1)) [0,1,2,3] 0,
 .u 8 (.ld false 1 .cp (.k 7)) [0,1,2,3] 0,
 .o 9 (.call n_c_ref01_Num2 [.k 8]),
 .o 10 (.bin .add (.k 6) (.k 9)),
 .o 2 (.mv (.k 10))] true [2] [])
 .ret))⟩

def F_c_ref19_Data : F := ⟨1,[.inl 2],
 (.seq (.reg [.zz 0] [.o 1 (.bx (.k 0)),
 .o 2 (.mv (.c (.s ⟨#[]⟩)))] false [1] [1])
 (.seq (.reg [] [.o 3 (.mv (.c (.s ⟨#[]⟩)))] false [1,3] [1])
 (.seq (.seq (.reg [] [.o 8 (.fa 3 (.t 1)),
 .o 9 (.ld false 1 .cp (.k 8)),
 .o 10 (.len false (.t 9)),
 .o 11 (.mv (.c (.i .i64 0)))] false [1,3,9,10,11] [1])
 (.blk 0 (.loop (.seq (.reg [] [.o 12 (.bin .lss (.t 11) (.t 10))] false [1,3,9,10,11,12] [1])
 (.seq (.cond 12 .skip
 (.exit 0))
 (.seq (.blk 1 (.seq (.reg [] [.o 13 (.ia 1 none (.t 9) (.t 11)),
 .o 14 (.ld false 1 .cp (.k 13)),
 .o 5 (.mv (.k 14))] false [1,3,5,9,10,11] [1])
 (.reg [] [.o 15 (.mv (.k 3)),
 .z 16 (.mv (.k 5)) 2,
 .o 17 (.call n_c_ref19_Items [.k 16]),
 .o 18 (.bin .add (.k 15) (.k 17)),
 .o 3 (.mv (.k 18))] false [1,3,9,10,11] [1])))
 (.reg [] [.o 19 (.bin .add (.k 11) (.c (.i .i64 1))),
 .o 11 (.mv (.k 19))] false [1,3,9,10,11] [1])))))))
 (.seq (.seq (.reg [] [.o 20 (.fa 4 (.k 1)),
 .o 21 (.ld false 1 .tk (.k 20)),
 .o 22 (.len false (.t 21)),
 .o 23 (.mv (.c (.i .i64 0)))] false [3,21,22,23] [])
 (.blk 2 (.loop (.seq (.reg [] [.o 24 (.bin .lss (.t 23) (.t 22))] false [3,21,22,23,24] [])
 (.seq (.cond 24 .skip
 (.exit 2))
 (.seq (.blk 3 (.seq (.reg [] [.o 25 (.ia 1 none (.t 21) (.t 23)),
 .o 26 (.ld false 1 .cp (.k 25)),
 .o 7 (.mv (.k 26))] false [3,7,21,22,23] [])
 (.reg [] [.o 27 (.mv (.k 3)),
 .o 28 (.mv (.k 7)),
 .o 29 (.cv (.int .u64) (.k 28)),
 .o 30 (.call n_c_ref01_Num2 [.k 29]),
 .o 31 (.bin .add (.k 27) (.k 30)),
 .o 3 (.mv (.k 31))] false [3,21,22,23] [])))
 (.reg [] [.o 32 (.bin .add (.k 23) (.c (.i .i64 1))),
 .o 23 (.mv (.k 32))] false [3,21,22,23] [])))))))
 (.seq (.reg [] [.o 33 (.mv (.k 3)),
 .o 2 (.mv (.k 33))] false [2] [])
 .ret)))))⟩

def F_c_ref20_Encode : F := ⟨1,[.inl 2],
 (.seq (.reg [.zz 0] [.o 1 (.bx (.k 0)),
 .o 2 (.mv (.c (.s ⟨#[]⟩)))] false [1] [1])
 (.seq (.reg [] [.z 6 (.ld true 5 .cp (.t 1)) 2,
 .o 7 (.call n_c_ref19_Meta [.k 6]),
 .u 8 (.ld true 5 .cp (.t 1)) [0,1] 2,
 .o 9 (.call n_c_ref19_Data [.k 8]),
 .o 3 (.mv (.k 7)),
 .o 4 (.mv (.k 9))] true [1,3,4] [1])
 (.seq (.reg [] [.o 10 (.fa 0 (.k 1)),
 .o 11 (.ld false 1 .cp (.k 10)),
 .o 12 (.cv (.int .u8) (.k 11)),
 .z 13 (.bs 1 2 (.i .u8 0) [(0,.c (.i .u8 4)),(1,.k 12)]) 1,
 .o 14 (.cv .str (.k 13)),
 .o 15 (.bin .add (.c (.s ⟨#[67,82,89,79]⟩)) (.k 14)),
 .u 16 (.mv (.t 3)) [0,1,2,3,4,5] 0,
 .u 17 (.len true (.k 16)) [0,1,2,3,4,5] 0,
 .u 18 (.bin .add (.c (.i .i64 41)) (.k 17)) [0,1,2,3,4,5] 0,
 .u 19 (.mv (.t 4)) [0,1,2,3,4,5,6,7,8] 0,
 .u 20 (.len true (.k 19)) [0,1,2,3,4,5,6,7,8] 0,
 .u 21 (.bin .add (.k 18) (.k 20)) [0,1,2,3,4,5] 0,
 .u 22 (.call n_c_ref20_word [.k 21]) [0,1,2,3,4,5] 0,
 .o 23 (.bin .add (.k 15) (.k 22)),
 .o 24 (.bin .add (.k 23) (.c (.s ⟨#[2]⟩))),
 .o 5 (.mv (.k 24))] true [3,4,5] [])
 (.seq (.reg [] [.o 25 (.mv (.k 5)),
 .o 26 (.mv (.t 3)),
 .o 27 (.call n_c_ref20_entry [.c (.i .i64 1),.c (.i .i64 37),.k 26]),
 .o 28 (.mv (.t 3)),
 .o 29 (.len true (.k 28)),
 .o 30 (.bin .add (.c (.i .i64 37)) (.k 29)),
 .o 31 (.mv (.t 4)),
 .o 32 (.call n_c_ref20_entry [.c (.i .i64 2),.k 30,.k 31]),
 .o 33 (.bin .add (.k 27) (.k 32)),
 .o 34 (.mv (.k 3)),
 .o 35 (.bin .add (.k 33) (.k 34)),
 .o 36 (.mv (.k 4)),
 .o 37 (.bin .add (.k 35) (.k 36)),
 .o 38 (.bin .add (.k 25) (.k 37)),
 .o 5 (.mv (.k 38))] false [5] [])
 (.seq (.reg [] [.o 39 (.mv (.t 5)),
 .o 40 (.mv (.k 5)),
 .o 41 (.call n_c_ref02_Sum [.k 40]),
 .o 42 (.cv (.int .i64) (.k 41)),
 .o 43 (.call n_c_ref20_word [.k 42]),
 .o 44 (.bin .add (.k 39) (.k 43)),
 .o 2 (.mv (.k 44))] false [2] [])
 .ret)))))⟩

def F_c_law04_Bits : F := ⟨1,[.inl 2],
 (.seq (.reg [] [.o 1 (.bx (.k 0)),
 .o 2 (.mv (.c (.i .u64 0)))] false [1] [1])
 (.seq (.reg [] [.o 3 (.fa 0 (.k 1)),
 .o 4 (.ld false 1 .cp (.k 3)),
 .o 5 (.bits (.k 4)),
 .o 6 (.call n_c_ref03_Bits [.k 5]),
 .o 2 (.mv (.k 6))] false [2] [])
 .ret))⟩

def F_c_law12_Kind : F := ⟨2,[.inl 4,.inl 5],
 (.seq (.reg [] [.o 4 (.mv (.c (.i .i64 0))),
 .o 5 (.mv (.c (.i .i64 0)))] false [0,1] [])
 (.seq (.reg [] [.o 6 (.mv (.k 0)),
 .o 7 (.bin .and (.k 6) (.c (.i .i64 255))),
 .o 8 (.bin .rem (.k 7) (.c (.i .i64 4))),
 .o 9 (.bin .add (.c (.i .i64 1)) (.k 8)),
 .o 0 (.mv (.k 9))] false [0,1] [])
 (.seq (.seq (.reg [] [.o 10 (.mv (.t 0)),
 .o 11 (.bin .eql (.k 10) (.c (.i .i64 4)))] false [0,1,11] [])
 (.cond 11 (.seq (.reg [] [.o 12 (.mv (.k 0)),
 .u 13 (.mv (.k 1)) [0] 0,
 .u 14 (.bin .and (.k 13) (.c (.i .i64 255))) [0] 0,
 .u 15 (.bin .rem (.k 14) (.c (.i .i64 5))) [0] 0,
 .u 16 (.bin .shl (.c (.i .i64 1)) (.k 15)) [0] 0,
 .u 4 (.mv (.k 12)) [1,2,3,4] 0,
 .o 5 (.mv (.k 16))] true [4,5] [])
 .ret)
 .skip))
 (.seq (.reg [] [.o 17 (.mv (.k 0)),
 .o 18 (.mv (.k 1)),
 .o 19 (.bin .and (.k 18) (.c (.i .i64 255))),
 .o 20 (.bin .rem (.k 19) (.c (.i .i64 16))),
 .o 21 (.bin .add (.c (.i .i64 1)) (.k 20)),
 .o 4 (.mv (.k 17)),
 .o 5 (.mv (.k 21))] false [4,5] [])
 .ret))))⟩

def F_c_law04_Own : F := ⟨1,[.inr (2,true,2)],
 (.seq (.reg [] [.o 1 (.bx (.k 0)),
 .o 2 (.al ([.f .f64 0,.i .i64 0]))] false [1,2] [1,2])
 (.seq (.reg [] [.o 3 (.fa 0 (.t 1)),
 .o 4 (.ld false 1 .cp (.k 3)),
 .o 5 (.call n_c_law03_F [.k 4]),
 .u 6 (.fa 1 (.t 1)) [0,1,2] 0,
 .u 7 (.ld false 1 .cp (.k 6)) [0,1,2] 0,
 .o 8 (.bd ([.f .f64 0,.i .i64 0]) [(0,1,.k 5),(1,1,.k 7)]),
 .s (.st 2 (.t 2) (.k 8))] true [2] [2])
 .ret))⟩

def F_pile_Item_Canon : F := ⟨1,[.inr (2,true,2)],
 (.seq (.reg [] [.o 1 (.bx (.k 0)),
 .o 2 (.al ([.f .f64 0,.i .i64 0]))] false [1,2] [1,2])
 (.seq (.reg [] [.o 3 (.fa 0 (.t 1)),
 .o 4 (.ld false 1 .cp (.k 3)),
 .o 5 (.call n_real_Canon [.k 4]),
 .u 6 (.fa 1 (.t 1)) [0,1,2] 0,
 .u 7 (.ld false 1 .cp (.k 6)) [0,1,2] 0,
 .o 8 (.bd ([.f .f64 0,.i .i64 0]) [(0,1,.k 5),(1,1,.k 7)]),
 .s (.st 2 (.t 2) (.k 8))] true [2] [2])
 .ret))⟩

def F_c_law17_sorted : F := ⟨1,[.inl 2],
 (.seq (.reg [.zz 0] [.o 2 (.mv (.c (.l .o 2 [])))] false [0] [])
 (.seq (.reg [] [.z 7 (.bs 2 0 (.a ([.f .f64 0,.i .i64 0])) []) 1,
 .o 3 (.mv (.k 7))] false [0,3] [])
 (.seq (.seq (.reg [] [.o 8 (.mv (.k 0)),
 .o 9 (.len false (.t 8)),
 .o 10 (.mv (.c (.i .i64 0)))] false [3,8,9,10] [])
 (.blk 0 (.loop (.seq (.reg [] [.o 11 (.bin .lss (.t 10) (.t 9))] false [3,8,9,10,11] [])
 (.seq (.cond 11 .skip
 (.exit 0))
 (.seq (.blk 1 (.seq (.reg [] [.o 12 (.ia 2 none (.t 8) (.t 10)),
 .o 13 (.ld true 2 .cp (.k 12)),
 .o 5 (.al ([.f .f64 0,.i .i64 0])),
 .s (.st 2 (.t 5) (.k 13))] false [3,5,8,9,10] [5])
 (.seq (.reg [] [.o 14 (.mv (.t 3)),
 .o 15 (.len false (.k 14)),
 .o 6 (.mv (.k 15))] false [3,5,6,8,9,10] [5])
 (.seq (.blk 2 (.loop (.seq (.seq (.reg [] [.o 16 (.mv (.t 6)),
 .o 17 (.bin .gtr (.k 16) (.c (.i .i64 0))),
 .o 18 (.mv (.k 17)),
 .c 18 true 19 (.ld true 2 .cp (.t 5)),
 ⟨some 20,some (18,true),.mv (.t 3),[3],0⟩,
 ⟨some 21,some (18,true),.mv (.t 6),[3,4],0⟩,
 ⟨some 22,some (18,true),.bin .sub (.k 21) (.c (.i .i64 1)),[3,4],0⟩,
 ⟨some 23,some (18,true),.ia 2 none (.k 20) (.k 22),[3],0⟩,
 ⟨some 24,some (18,true),.ld true 2 .cp (.k 23),[3],0⟩,
 .c 18 true 25 (.call n_pile_Item_Cmp [.k 19,.k 24]),
 .c 18 true 26 (.bin .lss (.k 25) (.c (.i .i64 0))),
 .o 27 (.pick (.t 18) (.k 26) (.c (.b false)))] true [3,5,6,8,9,10,27] [5])
 (.cond 27 .skip
 (.exit 2)))
 (.blk 3 (.reg [] [.o 28 (.mv (.k 6)),
 .o 29 (.bin .sub (.k 28) (.c (.i .i64 1))),
 .o 6 (.mv (.k 29))] false [3,5,6,8,9,10] [5])))))
 (.reg [] [.o 30 (.mv (.t 3)),
 .u 31 (.mv (.t 6)) [0] 0,
 .u 32 (.mv (.t 6)) [0,1] 0,
 .o 33 (.sl 2 (.k 30) none (some (.k 31)) (some (.k 32))),
 .u 34 (.ld true 2 .cp (.k 5)) [0,1,2,3] 0,
 .u 35 (.bs 2 1 (.a ([.f .f64 0,.i .i64 0])) [(0,.k 34)]) [0,1,2,3] 1,
 .u 36 (.mv (.t 3)) [0,1,2,3,4,5] 0,
 .u 37 (.mv (.t 6)) [0,1,2,3,4,5,6] 0,
 .u 38 (.sl 2 (.k 36) (some (.k 37)) none none) [0,1,2,3,4,5] 0,
 .u 39 (.app 2 16 (.k 35) (.k 38)) [0,1,2,3] 1,
 .z 40 (.app 2 16 (.k 33) (.k 39)) 1,
 .o 3 (.mv (.k 40))] true [3,8,9,10] [])))))
 (.reg [] [.o 41 (.bin .add (.k 10) (.c (.i .i64 1))),
 .o 10 (.mv (.k 41))] false [3,8,9,10] [])))))))
 (.seq (.reg [] [.o 42 (.mv (.k 3)),
 .o 2 (.mv (.k 42))] false [2] [])
 .ret))))⟩

def F_c_ref02_Word : F := ⟨1,[.inl 2],
 (.seq (.reg [] [.o 2 (.mv (.c (.s ⟨#[]⟩)))] false [0] [])
 (.seq (.reg [] [.o 3 (.mv (.t 0)),
 .o 4 (.bin .rem (.k 3) (.c (.i .u32 256))),
 .o 5 (.cv (.int .u8) (.k 4)),
 .o 6 (.mv (.t 0)),
 .o 7 (.bin .quo (.k 6) (.c (.i .u32 256))),
 .o 8 (.bin .rem (.k 7) (.c (.i .u32 256))),
 .o 9 (.cv (.int .u8) (.k 8)),
 .o 10 (.mv (.t 0)),
 .o 11 (.bin .quo (.k 10) (.c (.i .u32 65536))),
 .o 12 (.bin .rem (.k 11) (.c (.i .u32 256))),
 .o 13 (.cv (.int .u8) (.k 12)),
 .o 14 (.mv (.k 0)),
 .o 15 (.bin .quo (.k 14) (.c (.i .u32 16777216))),
 .o 16 (.cv (.int .u8) (.k 15)),
 .z 17 (.bs 1 4 (.i .u8 0) [(0,.k 5),(1,.k 9),(2,.k 13),(3,.k 16)]) 1,
 .o 18 (.cv .str (.k 17)),
 .o 2 (.mv (.k 18))] false [2] [])
 .ret))⟩

def F_c_ref02_Sum : F := ⟨1,[.inl 2],
 (.seq (.reg [] [.o 2 (.mv (.c (.i .u32 0)))] false [0] [])
 (.seq (.reg [] [.o 13 (.mv (.k 0)),
 .o 14 (.call n_c_ref02_Bits [.k 13]),
 .o 3 (.mv (.k 14))] false [3] [3])
 (.seq (.reg [.thaw 3] [.o 15 (.mv (.t 3)),
 .o 16 (.len false (.k 15)),
 .o 4 (.mv (.k 16))] false [3,4] [3])
 (.seq (.seq (.reg [] [.o 5 (.mv (.c (.i .i64 0)))] false [3,4,5] [3])
 (.blk 0 (.loop (.seq (.seq (.reg [] [.o 17 (.mv (.t 5)),
 .o 18 (.bin .lss (.k 17) (.c (.i .i64 32)))] false [3,4,5,18] [3])
 (.cond 18 .skip
 (.exit 0)))
 (.seq (.blk 1 (.reg [.unth 3] [.o 21 (.mv (.k 3)),
 .o 22 (.bs 1 1 (.i .i64 0) [(0,.c (.i .i64 0))]),
 .o 23 (.app 1 8 (.k 21) (.k 22)),
 .o 3 (.mv (.k 23))] false [3,4,5] [3]))
 (.reg [] [.o 19 (.mv (.k 5)),
 .o 20 (.bin .add (.k 19) (.c (.i .i64 1))),
 .o 5 (.mv (.k 20))] false [3,4,5] [3]))))))
 (.seq (.seq (.reg [] [.o 6 (.mv (.c (.i .i64 0)))] false [3,4,6] [3])
 (.blk 2 (.loop (.seq (.seq (.reg [] [.o 24 (.mv (.t 6)),
 .o 25 (.bin .lss (.k 24) (.c (.i .i64 32)))] false [3,4,6,25] [3])
 (.cond 25 .skip
 (.exit 2)))
 (.seq (.blk 3 (.reg [.thaw 3] [.o 28 (.mv (.t 3)),
 .o 29 (.mv (.t 6)),
 .o 30 (.mv (.t 3)),
 .o 31 (.mv (.t 6)),
 .o 32 (.ia 1 none (.k 30) (.k 31)),
 .o 33 (.ld false 1 .cp (.k 32)),
 .o 34 (.bin .sub (.c (.i .i64 1)) (.k 33)),
 .o 35 (.ia 1 none (.k 28) (.k 29)),
 .s (.st 1 (.k 35) (.k 34))] false [3,4,6] [3]))
 (.reg [] [.o 26 (.mv (.k 6)),
 .o 27 (.bin .add (.k 26) (.c (.i .i64 1))),
 .o 6 (.mv (.k 27))] false [3,4,6] [3]))))))
 (.seq (.reg [] [.z 36 (.bs 1 15 (.i .i64 0) [(0,.c (.i .i64 32)),(1,.c (.i .i64 26)),(2,.c (.i .i64 23)),(3,.c (.i .i64 22)),(4,.c (.i .i64 16)),(5,.c (.i .i64 12)),(6,.c (.i .i64 11)),(7,.c (.i .i64 10)),(8,.c (.i .i64 8)),(9,.c (.i .i64 7)),(10,.c (.i .i64 5)),(11,.c (.i .i64 4)),(12,.c (.i .i64 2)),(13,.c (.i .i64 1)),(14,.c (.i .i64 0))]) 1,
 .o 7 (.mv (.k 36))] false [3,4,7] [3])
 (.seq (.seq (.reg [] [.o 8 (.mv (.c (.i .i64 0)))] false [3,4,7,8] [3])
 (.blk 4 (.loop (.seq (.seq (.reg [] [.o 37 (.mv (.t 8)),
 .o 38 (.mv (.t 4)),
 .o 39 (.bin .lss (.k 37) (.k 38))] false [3,4,7,8,39] [3])
 (.cond 39 .skip
 (.exit 4)))
 (.seq (.blk 5 (.seq (.seq (.reg [.thaw 3] [.o 42 (.mv (.t 3)),
 .o 43 (.mv (.t 8)),
 .o 44 (.ia 1 none (.k 42) (.k 43)),
 .o 45 (.ld false 1 .cp (.k 44)),
 .o 46 (.bin .eql (.k 45) (.c (.i .i64 0)))] false [3,4,7,8,46] [3])
 (.cond 46 (.exit 5)
 .skip))
 (.seq (.reg [] [.o 47 (.mv (.t 7)),
 .o 48 (.len false (.t 47)),
 .o 49 (.mv (.c (.i .i64 0)))] false [3,4,7,8,47,48,49] [3])
 (.blk 6 (.loop (.seq (.reg [] [.o 50 (.bin .lss (.t 49) (.t 48))] false [3,4,7,8,47,48,49,50] [3])
 (.seq (.cond 50 .skip
 (.exit 6))
 (.seq (.blk 7 (.seq (.reg [] [.o 51 (.ia 1 none (.t 47) (.t 49)),
 .o 52 (.ld false 1 .cp (.k 51)),
 .o 10 (.mv (.k 52))] false [3,4,7,8,10,47,48,49] [3])
 (.reg [.thaw 3] [.o 53 (.mv (.t 3)),
 .o 54 (.mv (.t 8)),
 .o 55 (.bin .add (.k 54) (.c (.i .i64 32))),
 .o 56 (.mv (.t 10)),
 .o 57 (.bin .sub (.k 55) (.k 56)),
 .o 58 (.mv (.t 3)),
 .o 59 (.mv (.t 8)),
 .o 60 (.bin .add (.k 59) (.c (.i .i64 32))),
 .o 61 (.mv (.k 10)),
 .o 62 (.bin .sub (.k 60) (.k 61)),
 .o 63 (.ia 1 none (.k 58) (.k 62)),
 .o 64 (.ld false 1 .cp (.k 63)),
 .o 65 (.bin .sub (.c (.i .i64 1)) (.k 64)),
 .o 66 (.ia 1 none (.k 53) (.k 57)),
 .s (.st 1 (.k 66) (.k 65))] false [3,4,7,8,47,48,49] [3])))
 (.reg [] [.o 67 (.bin .add (.k 49) (.c (.i .i64 1))),
 .o 49 (.mv (.k 67))] false [3,4,7,8,47,48,49] [3])))))))))
 (.reg [] [.o 40 (.mv (.k 8)),
 .o 41 (.bin .add (.k 40) (.c (.i .i64 1))),
 .o 8 (.mv (.k 41))] false [3,4,7,8] [3]))))))
 (.seq (.reg [] [.o 11 (.mv (.c (.i .u32 0)))] false [3,4,11] [3])
 (.seq (.seq (.reg [] [.o 12 (.mv (.c (.i .i64 31)))] false [3,4,11,12] [3])
 (.blk 8 (.loop (.seq (.seq (.reg [] [.o 68 (.mv (.t 12)),
 .o 69 (.bin .geq (.k 68) (.c (.i .i64 0)))] false [3,4,11,12,69] [3])
 (.cond 69 .skip
 (.exit 8)))
 (.seq (.blk 9 (.reg [.thaw 3] [.o 72 (.mv (.k 11)),
 .o 73 (.bin .mul (.k 72) (.c (.i .u32 2))),
 .o 74 (.mv (.t 3)),
 .o 75 (.mv (.t 4)),
 .o 76 (.mv (.t 12)),
 .o 77 (.bin .add (.k 75) (.k 76)),
 .o 78 (.ia 1 none (.k 74) (.k 77)),
 .o 79 (.ld false 1 .cp (.k 78)),
 .o 80 (.bin .sub (.c (.i .i64 1)) (.k 79)),
 .o 81 (.cv (.int .u32) (.k 80)),
 .o 82 (.bin .add (.k 73) (.k 81)),
 .o 11 (.mv (.k 82))] false [3,4,11,12] [3]))
 (.reg [] [.o 70 (.mv (.k 12)),
 .o 71 (.bin .sub (.k 70) (.c (.i .i64 1))),
 .o 12 (.mv (.k 71))] false [3,4,11,12] [3]))))))
 (.seq (.reg [] [.o 83 (.mv (.k 11)),
 .o 2 (.mv (.k 83))] false [2] [])
 .ret))))))))))⟩

def F_elder_read : F := ⟨2,[.inr (4,true,5),.inl 5],
 (.seq (.reg [] [.o 4 (.al ([.i .i64 0,.i .i64 0,.i .u64 0,.l .o 1 [],.l .o 1 []])),
 .o 5 (.mv (.c (.i .i64 0)))] false [0,1,4] [4])
 (.seq (.seq (.reg [] [.o 10 (.mv (.t 0)),
 .o 11 (.bin .eql (.k 10) (.c (.i .i64 4)))] false [0,1,4,11] [4])
 (.cond 11 (.seq (.reg [] [.o 12 (.mv (.k 1)),
 .o 13 (.call n_file_Decode [.k 12]),
 .o 14 (.ex false 0 13),
 .o 15 (.ex false 1 13),
 .s (.st 5 (.t 4) (.k 14)),
 .o 5 (.mv (.k 15))] false [4,5] [4])
 .ret)
 .skip))
 (.seq (.seq (.reg [] [.o 16 (.mv (.t 0)),
 .o 17 (.bin .gtr (.k 16) (.c (.i .i64 1)))] false [0,1,4,17] [4])
 (.cond 17 (.seq (.reg [] [.o 19 (.call n_crc_Make []),
 .o 20 (.mv (.k 1)),
 .o 21 (.call n_crc_Table_Open [.k 19,.k 20]),
 .o 18 (.mv (.k 21)),
 .o 22 (.ex false 0 18),
 .o 23 (.ex false 1 18),
 .o 6 (.mv (.k 22)),
 .o 7 (.mv (.k 23))] false [0,4,6,7] [4])
 (.seq (.seq (.reg [] [.o 24 (.mv (.t 7)),
 .o 25 (.bin .neq (.k 24) (.c (.i .i64 0)))] false [0,4,6,7,25] [4])
 (.cond 25 (.seq (.reg [] [.o 26 (.bd ([.i .i64 0,.i .i64 0,.i .u64 0,.l .o 1 [],.l .o 1 []]) []),
 .o 27 (.mv (.k 7)),
 .s (.st 5 (.t 4) (.k 26)),
 .o 5 (.mv (.k 27))] false [4,5] [4])
 .ret)
 .skip))
 (.reg [] [.o 28 (.mv (.k 6)),
 .o 1 (.mv (.k 28))] false [0,1,4] [4])))
 .skip))
 (.seq (.reg [] [.o 30 (.mv (.k 0)),
 .o 31 (.mv (.t 1)),
 .o 32 (.mv (.k 1)),
 .o 33 (.len true (.k 32)),
 .o 34 (.mx false [.k 33,.c (.i .i64 5)]),
 .o 35 (.ss (.k 31) (some (.k 34)) none),
 .o 36 (.call n_elder_parse [.k 30,.k 35]),
 .o 29 (.mv (.k 36)),
 .o 37 (.ex false 0 29),
 .o 38 (.ex false 1 29),
 .o 8 (.al ([.i .i64 0,.i .i64 0,.i .u64 0,.l .o 1 [],.l .o 1 []])),
 .s (.st 5 (.t 8) (.k 37)),
 .o 9 (.mv (.k 38))] false [4,8,9] [4,8])
 (.seq (.seq (.reg [] [.o 39 (.mv (.t 9)),
 .o 40 (.bin .eql (.k 39) (.c (.i .i64 0)))] false [4,8,9,40] [4,8])
 (.cond 40 (.reg [] [.z 41 (.ld true 5 .cp (.t 8)) 2,
 .o 42 (.call n_image_Image_Check [.k 41]),
 .o 9 (.mv (.k 42))] false [4,8,9] [4,8])
 .skip))
 (.seq (.reg [] [.o 43 (.ld true 5 .tk (.k 8)),
 .o 44 (.mv (.k 9)),
 .s (.st 5 (.t 4) (.k 43)),
 .o 5 (.mv (.k 44))] false [4,5] [4])
 .ret))))))⟩

def F_image_Image_Check : F := ⟨1,[.inl 2],
 (.seq (.reg [.zz 0] [.o 1 (.bx (.k 0)),
 .o 2 (.mv (.c (.i .i64 0)))] false [1] [1])
 (.seq (.seq (.reg [] [.o 13 (.fa 0 (.t 1)),
 .o 14 (.ld false 1 .cp (.k 13)),
 .o 15 (.fa 1 (.t 1)),
 .o 16 (.ld false 1 .cp (.k 15)),
 .o 17 (.call n_op_Legal [.k 14,.k 16]),
 .o 3 (.mv (.k 17))] false [1,3] [1])
 (.seq (.reg [] [.o 18 (.mv (.t 3)),
 .o 19 (.bin .neq (.k 18) (.c (.i .i64 0)))] false [1,3,19] [1])
 (.cond 19 (.seq (.reg [] [.o 20 (.mv (.k 3)),
 .o 2 (.mv (.k 20))] false [2] [])
 .ret)
 .skip)))
 (.seq (.reg [] [.o 22 (.fa 0 (.t 1)),
 .o 23 (.ld false 1 .cp (.k 22)),
 .o 24 (.fa 1 (.t 1)),
 .o 25 (.ld false 1 .cp (.k 24)),
 .o 26 (.call n_image_Shape [.k 23,.k 25]),
 .o 21 (.mv (.k 26)),
 .o 27 (.ex false 0 21),
 .o 28 (.ex false 1 21),
 .o 4 (.mv (.k 27)),
 .o 5 (.mv (.k 28))] false [1,4,5] [1])
 (.seq (.seq (.reg [] [.o 29 (.fa 3 (.t 1)),
 .o 30 (.ld false 1 .cp (.k 29)),
 .o 31 (.len false (.k 30)),
 .o 32 (.mv (.k 4)),
 .o 33 (.bin .neq (.k 31) (.k 32)),
 .o 34 (.mv (.k 33)),
 .c 34 false 35 (.fa 4 (.t 1)),
 .c 34 false 36 (.ld false 1 .cp (.k 35)),
 .c 34 false 37 (.len false (.k 36)),
 .c 34 false 38 (.mv (.k 5)),
 .c 34 false 39 (.bin .neq (.k 37) (.k 38)),
 .o 40 (.pick (.k 34) (.c (.b true)) (.k 39))] false [1,40] [1])
 (.cond 40 (.seq (.reg [] [.o 2 (.mv (.c (.i .i64 2)))] false [2] [])
 .ret)
 .skip))
 (.seq (.reg [] [.o 6 (.mv (.c (.i .i64 0)))] false [1,6] [1])
 (.seq (.seq (.reg [] [.o 41 (.fa 3 (.t 1)),
 .o 42 (.ld false 1 .cp (.k 41)),
 .o 43 (.len false (.t 42)),
 .o 44 (.mv (.c (.i .i64 0)))] false [1,6,42,43,44] [1])
 (.blk 0 (.loop (.seq (.reg [] [.o 45 (.bin .lss (.t 44) (.t 43))] false [1,6,42,43,44,45] [1])
 (.seq (.cond 45 .skip
 (.exit 0))
 (.seq (.blk 1 (.seq (.reg [] [.o 46 (.ia 1 none (.t 42) (.t 44)),
 .o 47 (.ld false 1 .cp (.k 46)),
 .o 8 (.mv (.k 47))] false [1,6,8,42,43,44] [1])
 (.seq (.seq (.reg [] [.o 48 (.fa 0 (.t 1)),
 .o 49 (.ld false 1 .cp (.k 48)),
 .z 50 (.mv (.t 8)) 2,
 .o 51 (.call n_image_order [.k 49,.k 50]),
 .o 9 (.mv (.k 51))] false [1,6,8,9,42,43,44] [1])
 (.seq (.reg [] [.o 52 (.mv (.t 9)),
 .o 53 (.bin .neq (.k 52) (.c (.i .i64 0)))] false [1,6,8,9,42,43,44,53] [1])
 (.cond 53 (.seq (.reg [] [.o 54 (.mv (.k 9)),
 .o 2 (.mv (.k 54))] false [2] [])
 .ret)
 .skip)))
 (.reg [] [.o 55 (.mv (.k 6)),
 .o 56 (.mv (.k 8)),
 .o 57 (.len false (.k 56)),
 .o 58 (.bin .add (.k 55) (.k 57)),
 .o 6 (.mv (.k 58))] false [1,6,42,43,44] [1]))))
 (.reg [] [.o 59 (.bin .add (.k 44) (.c (.i .i64 1))),
 .o 44 (.mv (.k 59))] false [1,6,42,43,44] [1])))))))
 (.seq (.seq (.reg [] [.o 60 (.mv (.k 6)),
 .o 61 (.bin .gtr (.k 60) (.c (.i .i64 1000)))] false [1,61] [1])
 (.cond 61 (.seq (.reg [] [.o 2 (.mv (.c (.i .i64 3)))] false [2] [])
 .ret)
 .skip))
 (.seq (.reg [] [.o 10 (.mv (.c (.i .i64 0)))] false [1,10] [1])
 (.seq (.seq (.reg [] [.o 62 (.fa 4 (.k 1)),
 .o 63 (.ld false 1 .tk (.k 62)),
 .o 64 (.len false (.t 63)),
 .o 65 (.mv (.c (.i .i64 0)))] false [10,63,64,65] [])
 (.blk 2 (.loop (.seq (.reg [] [.o 66 (.bin .lss (.t 65) (.t 64))] false [10,63,64,65,66] [])
 (.seq (.cond 66 .skip
 (.exit 2))
 (.seq (.blk 3 (.seq (.reg [] [.o 67 (.ia 1 none (.t 63) (.t 65)),
 .o 68 (.ld false 1 .cp (.k 67)),
 .o 12 (.mv (.k 68))] false [10,12,63,64,65] [])
 (.seq (.seq (.reg [] [.o 69 (.mv (.t 12)),
 .o 70 (.bin .lss (.k 69) (.c (.i .i64 0))),
 .o 71 (.mv (.k 70)),
 .c 71 false 72 (.mv (.t 12)),
 .c 71 false 73 (.bin .gtr (.k 72) (.c (.i .i64 1125899906842624))),
 .o 74 (.pick (.k 71) (.c (.b true)) (.k 73))] false [10,12,63,64,65,74] [])
 (.cond 74 (.seq (.reg [] [.o 2 (.mv (.c (.i .i64 4)))] false [2] [])
 .ret)
 .skip))
 (.reg [] [.o 75 (.mv (.k 10)),
 .o 76 (.mv (.k 12)),
 .o 77 (.bin .add (.k 75) (.k 76)),
 .o 10 (.mv (.k 77))] false [10,63,64,65] []))))
 (.reg [] [.o 78 (.bin .add (.k 65) (.c (.i .i64 1))),
 .o 65 (.mv (.k 78))] false [10,63,64,65] [])))))))
 (.seq (.seq (.reg [] [.o 79 (.mv (.k 10)),
 .o 80 (.bin .gtr (.k 79) (.c (.i .i64 1125899906842624)))] false [80] [])
 (.cond 80 (.seq (.reg [] [.o 2 (.mv (.c (.i .i64 4)))] false [2] [])
 .ret)
 .skip))
 (.seq (.reg [] [.o 2 (.mv (.c (.i .i64 0)))] false [2] [])
 .ret)))))))))))⟩

def F_elder_one : F := ⟨1,[.inl 2],
 (.seq (.reg [.zz 0] [.o 1 (.bx (.k 0)),
 .o 2 (.mv (.c (.l .o 1 [])))] false [1] [1])
 (.seq (.reg [] [.o 7 (.fa 1 (.t 1)),
 .o 8 (.ld false 1 .cp (.k 7)),
 .o 9 (.cv (.int .u64) (.k 8)),
 .o 10 (.call n_octet_Num [.c (.l .o 1 []),.k 9]),
 .o 3 (.mv (.k 10))] false [1,3] [1])
 (.seq (.reg [] [.z 11 (.ld true 5 .cp (.t 1)) 2,
 .o 12 (.call n_image_Image_Value [.k 11]),
 .o 4 (.al ([.i .i64 0,.l .o 2 [],.i .i64 0])),
 .s (.st 3 (.t 4) (.k 12))] false [1,3,4] [1,4])
 (.seq (.seq (.reg [] [.o 13 (.fa 0 (.t 1)),
 .o 14 (.ld false 1 .cp (.k 13)),
 .o 15 (.bin .eql (.k 14) (.c (.i .i64 3))),
 .o 16 (.mv (.k 15)),
 .c 16 false 17 (.fa 0 (.k 1)),
 .c 16 false 18 (.ld false 1 .cp (.k 17)),
 .c 16 false 19 (.bin .eql (.k 18) (.c (.i .i64 4))),
 .o 20 (.pick (.k 16) (.c (.b true)) (.k 19))] false [3,4,20] [4])
 (.cond 20 (.seq (.reg [] [.o 21 (.mv (.k 3)),
 .o 22 (.fa 2 (.k 4)),
 .o 23 (.ld false 1 .cp (.k 22)),
 .o 24 (.cv (.int .u64) (.k 23)),
 .o 25 (.call n_octet_Long [.k 21,.k 24]),
 .o 2 (.mv (.k 25))] false [2] [])
 .ret)
 .skip))
 (.seq (.reg [] [.o 26 (.mv (.k 3)),
 .o 27 (.fa 1 (.t 4)),
 .o 28 (.ld false 1 .cp (.k 27)),
 .o 29 (.len false (.k 28)),
 .o 30 (.cv (.int .u32) (.k 29)),
 .o 31 (.call n_octet_Word [.k 26,.k 30]),
 .o 3 (.mv (.k 31))] false [3,4] [4])
 (.seq (.seq (.reg [] [.o 32 (.fa 1 (.k 4)),
 .o 33 (.ld false 1 .tk (.k 32)),
 .o 34 (.len false (.t 33)),
 .o 35 (.mv (.c (.i .i64 0)))] false [3,33,34,35] [])
 (.blk 0 (.loop (.seq (.reg [] [.o 36 (.bin .lss (.t 35) (.t 34))] false [3,33,34,35,36] [])
 (.seq (.cond 36 .skip
 (.exit 0))
 (.seq (.blk 1 (.seq (.reg [] [.o 37 (.ia 2 none (.t 33) (.t 35)),
 .o 38 (.ld true 2 .cp (.k 37)),
 .o 6 (.al ([.f .f64 0,.i .i64 0])),
 .s (.st 2 (.t 6) (.k 38))] false [3,6,33,34,35] [6])
 (.reg [] [.o 39 (.mv (.k 3)),
 .u 40 (.ld true 2 .cp (.t 6)) [0] 0,
 .u 41 (.call n_pile_Item_Canon [.k 40]) [0] 0,
 .u 42 (.fd false 0 1 (.k 41)) [0] 0,
 .u 43 (.bits (.k 42)) [0] 0,
 .o 44 (.call n_octet_Long [.k 39,.k 43]),
 .u 45 (.fa 1 (.t 6)) [0,1,2,3,4,5] 0,
 .u 46 (.ld false 1 .cp (.k 45)) [0,1,2,3,4,5] 0,
 .u 47 (.cv (.int .u64) (.k 46)) [0,1,2,3,4,5] 0,
 .o 48 (.call n_octet_Long [.k 44,.k 47]),
 .o 3 (.mv (.k 48))] true [3,33,34,35] [])))
 (.reg [] [.o 49 (.bin .add (.k 35) (.c (.i .i64 1))),
 .o 35 (.mv (.k 49))] false [3,33,34,35] [])))))))
 (.seq (.reg [] [.o 50 (.mv (.k 3)),
 .o 2 (.mv (.k 50))] false [2] [])
 .ret)))))))⟩

def F_crc_Make : F := ⟨0,[.inl 0],
 (.seq (.reg [] [.o 0 (.mv (.c (.nilp)))] false [] [])
 (.seq (.reg [] [.o 4 (.bd (List.replicate 256 (.i .u32 0 : D)) []),
 .o 5 (.bg (.k 4)),
 .o 1 (.mv (.k 5))] false [1] [])
 (.seq (.seq (.reg [] [.o 6 (.mv (.c (.i .i64 0)))] false [1,6] [])
 (.blk 0 (.loop (.seq (.reg [] [.o 7 (.bin .lss (.t 6) (.c (.i .i64 256)))] false [1,6,7] [])
 (.seq (.cond 7 .skip
 (.exit 0))
 (.seq (.blk 1 (.seq (.reg [] [.o 8 (.mv (.t 6)),
 .o 2 (.mv (.k 8))] false [1,2,6] [])
 (.seq (.reg [] [.o 9 (.mv (.t 2)),
 .o 10 (.cv (.int .u32) (.k 9)),
 .o 3 (.mv (.k 10))] false [1,2,3,6] [])
 (.seq (.seq (.reg [] [.o 11 (.mv (.c (.i .i64 0)))] false [1,2,3,6,11] [])
 (.blk 2 (.loop (.seq (.reg [] [.o 12 (.bin .lss (.t 11) (.c (.i .i64 8)))] false [1,2,3,6,11,12] [])
 (.seq (.cond 12 .skip
 (.exit 2))
 (.seq (.blk 3 (.seq (.reg [] [.o 13 (.mv (.t 3)),
 .o 14 (.bin .and (.k 13) (.c (.i .u32 1))),
 .o 15 (.bin .eql (.k 14) (.c (.i .u32 1)))] false [1,2,3,6,11,15] [])
 (.cond 15 (.reg [] [.o 16 (.mv (.k 3)),
 .o 17 (.bin .shr (.k 16) (.c (.i .u64 1))),
 .o 18 (.bin .xor (.k 17) (.c (.i .u32 3988292384))),
 .o 3 (.mv (.k 18))] false [1,2,3,6,11] [])
 (.reg [] [.o 19 (.mv (.k 3)),
 .o 20 (.bin .shr (.k 19) (.c (.i .u64 1))),
 .o 3 (.mv (.k 20))] false [1,2,3,6,11] []))))
 (.reg [] [.o 21 (.bin .add (.k 11) (.c (.i .i64 1))),
 .o 11 (.mv (.k 21))] false [1,2,3,6,11] [])))))))
 (.reg [] [.o 22 (.mv (.t 1)),
 .o 23 (.mv (.k 2)),
 .o 24 (.mv (.k 3)),
 .o 25 (.nc (.k 22)),
 .o 26 (.ia 1 (some 256) (.k 25) (.k 23)),
 .s (.st 1 (.k 26) (.k 24))] false [1,6] [])))))
 (.reg [] [.o 27 (.bin .add (.k 6) (.c (.i .i64 1))),
 .o 6 (.mv (.k 27))] false [1,6] [])))))))
 (.seq (.reg [] [.o 28 (.mv (.k 1)),
 .o 0 (.mv (.k 28))] false [0] [])
 .ret))))⟩

def F_crc_Table_Seal : F := ⟨2,[.inl 4],
 (.seq (.reg [] [.o 4 (.mv (.c (.s ⟨#[]⟩)))] false [0,1] [])
 (.seq (.reg [] [.o 5 (.mv (.t 1)),
 .z 6 (.cv .bytes (.k 5)) 1,
 .o 7 (.mv (.k 0)),
 .o 8 (.mv (.k 1)),
 .z 9 (.bs 1 1 (.s ⟨#[]⟩) [(0,.k 8)]) 2,
 .o 10 (.call n_crc_Table_Sum [.k 7,.k 9]),
 .o 11 (.call n_octet_Word [.k 6,.k 10]),
 .o 12 (.cv .str (.k 11)),
 .o 4 (.mv (.k 12))] false [4] [])
 .ret))⟩

def F_elder_two : F := ⟨1,[.inl 2],
 (.seq (.reg [.zz 0] [.o 1 (.bx (.k 0)),
 .o 2 (.mv (.c (.l .o 1 [])))] false [1] [1])
 (.seq (.reg [] [.o 10 (.fa 1 (.t 1)),
 .o 11 (.ld false 1 .cp (.k 10)),
 .o 12 (.cv (.int .u64) (.k 11)),
 .o 13 (.call n_octet_Num [.c (.l .o 1 []),.k 12]),
 .o 3 (.mv (.k 13))] false [1,3] [1])
 (.seq (.seq (.reg [] [.o 14 (.fa 3 (.t 1)),
 .o 15 (.ld false 1 .cp (.k 14)),
 .o 16 (.len false (.t 15)),
 .o 17 (.mv (.c (.i .i64 0)))] false [1,3,15,16,17] [1])
 (.blk 0 (.loop (.seq (.reg [] [.o 18 (.bin .lss (.t 17) (.t 16))] false [1,3,15,16,17,18] [1])
 (.seq (.cond 18 .skip
 (.exit 0))
 (.seq (.blk 1 (.seq (.reg [] [.o 19 (.ia 1 none (.t 15) (.t 17)),
 .o 20 (.ld false 1 .cp (.k 19)),
 .o 5 (.mv (.k 20))] false [1,3,5,15,16,17] [1])
 (.seq (.reg [] [.o 21 (.mv (.k 3)),
 .o 22 (.mv (.t 5)),
 .o 23 (.len false (.k 22)),
 .o 24 (.cv (.int .u64) (.k 23)),
 .o 25 (.call n_octet_Num [.k 21,.k 24]),
 .o 3 (.mv (.k 25))] false [1,3,5,15,16,17] [1])
 (.seq (.reg [] [.o 26 (.mv (.k 5)),
 .o 27 (.len false (.t 26)),
 .o 28 (.mv (.c (.i .i64 0)))] false [1,3,15,16,17,26,27,28] [1])
 (.blk 2 (.loop (.seq (.reg [] [.o 29 (.bin .lss (.t 28) (.t 27))] false [1,3,15,16,17,26,27,28,29] [1])
 (.seq (.cond 29 .skip
 (.exit 2))
 (.seq (.blk 3 (.seq (.reg [] [.o 30 (.ia 2 none (.t 26) (.t 28)),
 .o 31 (.ld true 2 .cp (.k 30)),
 .o 7 (.al ([.f .f64 0,.i .i64 0])),
 .s (.st 2 (.t 7) (.k 31))] false [1,3,7,15,16,17,26,27,28] [1,7])
 (.reg [] [.o 32 (.mv (.k 3)),
 .u 33 (.ld true 2 .cp (.t 7)) [0] 0,
 .u 34 (.call n_pile_Item_Canon [.k 33]) [0] 0,
 .u 35 (.fd false 0 1 (.k 34)) [0] 0,
 .u 36 (.bits (.k 35)) [0] 0,
 .o 37 (.call n_octet_Long [.k 32,.k 36]),
 .u 38 (.fa 1 (.t 7)) [0,1,2,3,4,5] 0,
 .u 39 (.ld false 1 .cp (.k 38)) [0,1,2,3,4,5] 0,
 .o 40 (.call n_octet_Int [.k 37,.k 39]),
 .o 3 (.mv (.k 40))] true [1,3,15,16,17,26,27,28] [1])))
 (.reg [] [.o 41 (.bin .add (.k 28) (.c (.i .i64 1))),
 .o 28 (.mv (.k 41))] false [1,3,15,16,17,26,27,28] [1]))))))))))
 (.reg [] [.o 42 (.bin .add (.k 17) (.c (.i .i64 1))),
 .o 17 (.mv (.k 42))] false [1,3,15,16,17] [1])))))))
 (.seq (.seq (.reg [] [.o 43 (.fa 4 (.k 1)),
 .o 44 (.ld false 1 .tk (.k 43)),
 .o 45 (.len false (.t 44)),
 .o 46 (.mv (.c (.i .i64 0)))] false [3,44,45,46] [])
 (.blk 4 (.loop (.seq (.reg [] [.o 47 (.bin .lss (.t 46) (.t 45))] false [3,44,45,46,47] [])
 (.seq (.cond 47 .skip
 (.exit 4))
 (.seq (.blk 5 (.seq (.reg [] [.o 48 (.ia 1 none (.t 44) (.t 46)),
 .o 49 (.ld false 1 .cp (.k 48)),
 .o 9 (.mv (.k 49))] false [3,9,44,45,46] [])
 (.reg [] [.o 50 (.mv (.k 3)),
 .o 51 (.mv (.k 9)),
 .o 52 (.cv (.int .u64) (.k 51)),
 .o 53 (.call n_octet_Num [.k 50,.k 52]),
 .o 3 (.mv (.k 53))] false [3,44,45,46] [])))
 (.reg [] [.o 54 (.bin .add (.k 46) (.c (.i .i64 1))),
 .o 46 (.mv (.k 54))] false [3,44,45,46] [])))))))
 (.seq (.reg [] [.o 55 (.mv (.k 3)),
 .o 2 (.mv (.k 55))] false [2] [])
 .ret)))))⟩

def F_elder_three : F := ⟨1,[.inl 2],
 (.seq (.reg [.zz 0] [.o 1 (.bx (.k 0)),
 .o 2 (.mv (.c (.l .o 1 [])))] false [1] [1])
 (.seq (.reg [] [.z 9 (.ld true 5 .tk (.k 1)) 2,
 .o 10 (.call n_section_Of [.k 9]),
 .o 3 (.mv (.k 10))] false [3] [])
 (.seq (.reg [] [.o 11 (.mv (.t 3)),
 .o 12 (.len false (.k 11)),
 .o 13 (.cv (.int .u8) (.k 12)),
 .z 14 (.bs 1 1 (.i .u8 0) [(0,.k 13)]) 1,
 .o 4 (.mv (.k 14))] false [3,4] [])
 (.seq (.seq (.reg [] [.o 15 (.mv (.t 3)),
 .o 16 (.len false (.t 15)),
 .o 17 (.mv (.c (.i .i64 0)))] false [3,4,15,16,17] [])
 (.blk 0 (.loop (.seq (.reg [] [.o 18 (.bin .lss (.t 17) (.t 16))] false [3,4,15,16,17,18] [])
 (.seq (.cond 18 .skip
 (.exit 0))
 (.seq (.blk 1 (.seq (.reg [] [.o 19 (.ia 2 none (.t 15) (.t 17)),
 .o 20 (.ld true 2 .cp (.k 19)),
 .o 6 (.al ([.i .i64 0,.s ⟨#[]⟩])),
 .s (.st 2 (.t 6) (.k 20))] false [3,4,6,15,16,17] [6])
 (.reg [] [.o 21 (.mv (.k 4)),
 .u 22 (.fa 0 (.t 6)) [0] 0,
 .u 23 (.ld false 1 .cp (.k 22)) [0] 0,
 .u 24 (.cv (.int .u8) (.k 23)) [0] 0,
 .u 25 (.bs 1 1 (.i .u8 0) [(0,.k 24)]) [0] 0,
 .z 26 (.app 1 1 (.k 21) (.k 25)) 1,
 .u 27 (.fa 1 (.t 6)) [0,1,2,3,4,5] 0,
 .u 28 (.ld false 1 .cp (.k 27)) [0,1,2,3,4,5] 0,
 .u 29 (.len true (.k 28)) [0,1,2,3,4,5] 0,
 .u 30 (.cv (.int .u32) (.k 29)) [0,1,2,3,4,5] 0,
 .o 31 (.call n_octet_Word [.k 26,.k 30]),
 .o 4 (.mv (.k 31))] true [3,4,15,16,17] [])))
 (.reg [] [.o 32 (.bin .add (.k 17) (.c (.i .i64 1))),
 .o 17 (.mv (.k 32))] false [3,4,15,16,17] [])))))))
 (.seq (.seq (.reg [] [.o 33 (.mv (.k 3)),
 .o 34 (.len false (.t 33)),
 .o 35 (.mv (.c (.i .i64 0)))] false [4,33,34,35] [])
 (.blk 2 (.loop (.seq (.reg [] [.o 36 (.bin .lss (.t 35) (.t 34))] false [4,33,34,35,36] [])
 (.seq (.cond 36 .skip
 (.exit 2))
 (.seq (.blk 3 (.seq (.reg [] [.o 37 (.ia 2 none (.t 33) (.t 35)),
 .o 38 (.ld true 2 .cp (.k 37)),
 .o 8 (.al ([.i .i64 0,.s ⟨#[]⟩])),
 .s (.st 2 (.t 8) (.k 38))] false [4,8,33,34,35] [8])
 (.reg [] [.o 39 (.mv (.k 4)),
 .o 40 (.fa 1 (.k 8)),
 .o 41 (.ld false 1 .cp (.k 40)),
 .z 42 (.apps (.k 39) (.k 41)) 1,
 .o 4 (.mv (.k 42))] false [4,33,34,35] [])))
 (.reg [] [.o 43 (.bin .add (.k 35) (.c (.i .i64 1))),
 .o 35 (.mv (.k 43))] false [4,33,34,35] [])))))))
 (.seq (.reg [] [.o 44 (.mv (.k 4)),
 .o 2 (.mv (.k 44))] false [2] [])
 .ret))))))⟩

def F_file_Encode : F := ⟨1,[.inl 2,.inl 3],
 (.seq (.reg [.zz 0] [.o 1 (.bx (.k 0)),
 .o 2 (.mv (.c (.s ⟨#[]⟩))),
 .o 3 (.mv (.c (.i .i64 0)))] false [1] [1])
 (.seq (.seq (.reg [] [.z 13 (.ld true 5 .cp (.t 1)) 2,
 .o 14 (.call n_image_Image_Check [.k 13]),
 .o 4 (.mv (.k 14))] false [1,4] [1])
 (.seq (.reg [] [.o 15 (.mv (.t 4)),
 .o 16 (.bin .neq (.k 15) (.c (.i .i64 0)))] false [1,4,16] [1])
 (.cond 16 (.seq (.reg [] [.o 17 (.mv (.k 4)),
 .o 2 (.mv (.c (.s ⟨#[]⟩))),
 .o 3 (.mv (.k 17))] false [2,3] [])
 .ret)
 .skip)))
 (.seq (.reg [] [.o 18 (.call n_crc_Make []),
 .o 5 (.mv (.k 18))] false [1,5] [1])
 (.seq (.reg [] [.z 19 (.ld true 5 .cp (.t 1)) 2,
 .o 20 (.call n_section_Of [.k 19]),
 .o 6 (.mv (.k 20))] false [1,5,6] [1])
 (.seq (.reg [] [.o 21 (.mv (.t 6)),
 .o 22 (.len false (.k 21)),
 .o 23 (.bin .mul (.c (.i .i64 13)) (.k 22)),
 .o 24 (.bin .add (.c (.i .i64 11)) (.k 23)),
 .o 7 (.mv (.k 24))] false [1,5,6,7] [1])
 (.seq (.reg [] [.o 8 (.mv (.c (.l .o 1 []))),
 .o 9 (.mv (.c (.l .o 1 [])))] false [1,5,6,7,8,9] [1])
 (.seq (.seq (.reg [] [.o 25 (.mv (.t 6)),
 .o 26 (.len false (.t 25)),
 .o 27 (.mv (.c (.i .i64 0)))] false [1,5,6,7,8,9,25,26,27] [1])
 (.blk 0 (.loop (.seq (.reg [] [.o 28 (.bin .lss (.t 27) (.t 26))] false [1,5,6,7,8,9,25,26,27,28] [1])
 (.seq (.cond 28 .skip
 (.exit 0))
 (.seq (.blk 1 (.seq (.reg [] [.o 29 (.ia 2 none (.t 25) (.t 27)),
 .o 30 (.ld true 2 .cp (.k 29)),
 .o 11 (.al ([.i .i64 0,.s ⟨#[]⟩])),
 .s (.st 2 (.t 11) (.k 30))] false [1,5,6,7,8,9,11,25,26,27] [1,11])
 (.seq (.reg [] [.o 31 (.mv (.k 8)),
 .o 32 (.fa 0 (.t 11)),
 .o 33 (.ld false 1 .cp (.k 32)),
 .o 34 (.cv (.int .u8) (.k 33)),
 .o 35 (.bs 1 1 (.i .u8 0) [(0,.k 34)]),
 .z 36 (.app 1 1 (.k 31) (.k 35)) 1,
 .o 8 (.mv (.k 36))] false [1,5,6,7,8,9,11,25,26,27] [1,11])
 (.seq (.reg [] [.o 37 (.mv (.k 8)),
 .u 38 (.mv (.t 7)) [0] 0,
 .u 39 (.mv (.t 9)) [0,1] 0,
 .u 40 (.len false (.k 39)) [0,1] 0,
 .u 41 (.bin .add (.k 38) (.k 40)) [0] 0,
 .u 42 (.cv (.int .u32) (.k 41)) [0] 0,
 .o 43 (.call n_octet_Word [.k 37,.k 42]),
 .u 44 (.fa 1 (.t 11)) [0,1,2,3,4,5,6] 0,
 .u 45 (.ld false 1 .cp (.k 44)) [0,1,2,3,4,5,6] 0,
 .u 46 (.len true (.k 45)) [0,1,2,3,4,5,6] 0,
 .u 47 (.cv (.int .u32) (.k 46)) [0,1,2,3,4,5,6] 0,
 .o 48 (.call n_octet_Word [.k 43,.k 47]),
 .u 49 (.mv (.t 5)) [0,1,2,3,4,5,6,7,8,9,10,11] 0,
 .u 50 (.fa 1 (.t 11)) [0,1,2,3,4,5,6,7,8,9,10,11,12] 0,
 .u 51 (.ld false 1 .cp (.k 50)) [0,1,2,3,4,5,6,7,8,9,10,11,12] 0,
 .u 52 (.bs 1 1 (.s ⟨#[]⟩) [(0,.k 51)]) [0,1,2,3,4,5,6,7,8,9,10,11,12] 2,
 .o 53 (.call n_crc_Table_Sum [.k 49,.k 52]),
 .o 54 (.call n_octet_Word [.k 48,.k 53]),
 .o 8 (.mv (.k 54))] true [1,5,6,7,8,9,11,25,26,27] [1,11])
 (.reg [] [.o 55 (.mv (.k 9)),
 .o 56 (.fa 1 (.k 11)),
 .o 57 (.ld false 1 .cp (.k 56)),
 .z 58 (.apps (.k 55) (.k 57)) 1,
 .o 9 (.mv (.k 58))] false [1,5,6,7,8,9,25,26,27] [1])))))
 (.reg [] [.o 59 (.bin .add (.k 27) (.c (.i .i64 1))),
 .o 27 (.mv (.k 59))] false [1,5,6,7,8,9,25,26,27] [1])))))))
 (.seq (.reg [] [.o 60 (.bs 1 4 (.i .u8 0) [(0,.c (.i .u8 67)),(1,.c (.i .u8 82)),(2,.c (.i .u8 89)),(3,.c (.i .u8 79))]),
 .z 61 (.cv .mark (.k 60)) 1,
 .o 62 (.fa 0 (.k 1)),
 .o 63 (.ld false 1 .cp (.k 62)),
 .o 64 (.cv (.int .u8) (.k 63)),
 .o 65 (.bs 1 2 (.i .u8 0) [(0,.c (.i .u8 4)),(1,.k 64)]),
 .z 66 (.app 1 1 (.k 61) (.k 65)) 1,
 .o 12 (.mv (.k 66))] false [5,6,7,8,9,12] [])
 (.seq (.reg [] [.o 67 (.mv (.k 12)),
 .o 68 (.mv (.k 7)),
 .o 69 (.mv (.t 9)),
 .o 70 (.len false (.k 69)),
 .o 71 (.bin .add (.k 68) (.k 70)),
 .o 72 (.bin .add (.k 71) (.c (.i .i64 4))),
 .o 73 (.cv (.int .u32) (.k 72)),
 .o 74 (.call n_octet_Word [.k 67,.k 73]),
 .o 12 (.mv (.k 74))] false [5,6,8,9,12] [])
 (.seq (.reg [] [.o 75 (.mv (.k 12)),
 .o 76 (.mv (.k 6)),
 .o 77 (.len false (.k 76)),
 .o 78 (.cv (.int .u8) (.k 77)),
 .o 79 (.bs 1 1 (.i .u8 0) [(0,.k 78)]),
 .z 80 (.app 1 1 (.k 75) (.k 79)) 1,
 .o 81 (.mv (.k 8)),
 .z 82 (.app 1 1 (.k 80) (.k 81)) 1,
 .o 83 (.mv (.k 9)),
 .z 84 (.app 1 1 (.k 82) (.k 83)) 1,
 .o 12 (.mv (.k 84))] false [5,12] [])
 (.seq (.reg [] [.o 85 (.mv (.k 5)),
 .o 86 (.mv (.k 12)),
 .o 87 (.cv .str (.k 86)),
 .o 88 (.call n_crc_Table_Seal [.k 85,.k 87]),
 .o 2 (.mv (.k 88)),
 .o 3 (.mv (.c (.i .i64 0)))] false [2,3] [])
 .ret)))))))))))⟩

def F_pile_Sorted : F := ⟨1,[.inl 2],
 (.seq (.reg [.zz 0] [.o 2 (.mv (.c (.l .o 2 [])))] false [0] [])
 (.seq (.reg [] [.z 3 (.mv (.k 0)) 2,
 .o 4 (.call n_pile_New [.k 3]),
 .o 5 (.call n_pile_Pile_All [.k 4]),
 .o 2 (.mv (.k 5))] false [2] [])
 .ret))⟩

def F_slices_EqualFunc_pile_Item_pile_Item_pile_Item_pile_Item_1 : F := ⟨3,[.inl 6],
 (.seq (.reg [.zz 0,.zz 1] [.o 6 (.mv (.c (.b false)))] false [0,1,2] [])
 (.seq (.seq (.reg [] [.o 10 (.mv (.t 0)),
 .o 11 (.len false (.k 10)),
 .o 12 (.mv (.t 1)),
 .o 13 (.len false (.k 12)),
 .o 14 (.bin .neq (.k 11) (.k 13))] false [0,1,2,14] [])
 (.cond 14 (.seq (.reg [] [.o 6 (.mv (.c (.b false)))] false [6] [])
 .ret)
 .skip))
 (.seq (.seq (.reg [] [.o 15 (.mv (.k 0)),
 .o 16 (.len false (.t 15)),
 .o 17 (.mv (.c (.i .i64 0)))] false [1,2,15,16,17] [])
 (.blk 0 (.loop (.seq (.reg [] [.o 18 (.bin .lss (.t 17) (.t 16))] false [1,2,15,16,17,18] [])
 (.seq (.cond 18 .skip
 (.exit 0))
 (.seq (.blk 1 (.seq (.reg [] [.o 19 (.mv (.t 17)),
 .o 20 (.ia 2 none (.t 15) (.t 17)),
 .o 21 (.ld true 2 .cp (.k 20)),
 .o 8 (.al ([.f .f64 0,.i .i64 0])),
 .o 7 (.mv (.k 19)),
 .s (.st 2 (.t 8) (.k 21))] false [1,2,7,8,15,16,17] [8])
 (.seq (.reg [] [.o 22 (.mv (.t 1)),
 .o 23 (.mv (.k 7)),
 .o 24 (.ia 2 none (.k 22) (.k 23)),
 .o 25 (.ld true 2 .cp (.k 24)),
 .o 9 (.al ([.f .f64 0,.i .i64 0])),
 .s (.st 2 (.t 9) (.k 25))] false [1,2,8,9,15,16,17] [8,9])
 (.seq (.reg [] [.o 26 (.mv (.t 2)),
 .o 27 (.ld true 2 .cp (.k 8)),
 .o 28 (.ld true 2 .cp (.k 9)),
 .o 29 (.callv (.k 26) [.k 27,.k 28]),
 .o 30 (.un .not (.k 29))] false [1,2,15,16,17,30] [])
 (.cond 30 (.seq (.reg [] [.o 6 (.mv (.c (.b false)))] false [6] [])
 .ret)
 .skip)))))
 (.reg [] [.o 31 (.bin .add (.k 17) (.c (.i .i64 1))),
 .o 17 (.mv (.k 31))] false [1,2,15,16,17] [])))))))
 (.seq (.reg [] [.o 6 (.mv (.c (.b true)))] false [6] [])
 .ret))))⟩

def F_value_Value_Same_1 : F := ⟨2,[.inl 4],
 (.seq (.reg [] [.o 2 (.bx (.k 0)),
 .o 3 (.bx (.k 1)),
 .o 4 (.mv (.c (.b false)))] false [2,3] [2,3])
 (.seq (.reg [] [.o 5 (.ld true 2 .cp (.k 2)),
 .o 6 (.ld true 2 .cp (.k 3)),
 .o 7 (.call n_pile_Item_Cmp [.k 5,.k 6]),
 .o 8 (.bin .eql (.k 7) (.c (.i .i64 0))),
 .o 4 (.mv (.k 8))] false [4] [])
 .ret))⟩

def F_pile_Item_Cmp : F := ⟨2,[.inl 4],
 (.seq (.reg [] [.o 2 (.bx (.k 0)),
 .o 3 (.bx (.k 1)),
 .o 4 (.mv (.c (.i .i64 0)))] false [2,3] [2,3])
 (.seq (.seq (.reg [] [.o 6 (.fa 0 (.t 2)),
 .o 7 (.ld false 1 .cp (.k 6)),
 .o 8 (.fa 0 (.t 3)),
 .o 9 (.ld false 1 .cp (.k 8)),
 .o 10 (.call n_real_Cmp [.k 7,.k 9]),
 .o 5 (.mv (.k 10))] false [2,3,5] [2,3])
 (.seq (.reg [] [.o 11 (.mv (.t 5)),
 .o 12 (.bin .neq (.k 11) (.c (.i .i64 0)))] false [2,3,5,12] [2,3])
 (.cond 12 (.seq (.reg [] [.o 13 (.mv (.k 5)),
 .o 4 (.mv (.k 13))] false [4] [])
 .ret)
 .skip)))
 (.seq (.blk 0 (.seq (.reg [] [.o 15 (.fa 1 (.t 2)),
 .o 16 (.ld false 1 .cp (.k 15)),
 .o 17 (.fa 1 (.t 3)),
 .o 18 (.ld false 1 .cp (.k 17)),
 .o 19 (.bin .lss (.k 16) (.k 18)),
 .o 14 (.mv (.k 19))] false [2,3,14] [2,3])
 (.cond 14 (.seq (.reg [] [.o 4 (.mv (.c (.i .i64 (-1))))] false [4] [])
 .ret)
 (.seq (.reg [] [.o 21 (.fa 1 (.k 2)),
 .o 22 (.ld false 1 .cp (.k 21)),
 .o 23 (.fa 1 (.k 3)),
 .o 24 (.ld false 1 .cp (.k 23)),
 .o 25 (.bin .gtr (.k 22) (.k 24)),
 .o 20 (.mv (.k 25))] false [20] [])
 (.cond 20 (.seq (.reg [] [.o 4 (.mv (.c (.i .i64 1)))] false [4] [])
 .ret)
 .skip)))))
 (.seq (.reg [] [.o 4 (.mv (.c (.i .i64 0)))] false [4] [])
 .ret))))⟩

def F_file_reader_begin : F := ⟨2,[.inl 4,.inl 5,.inl 6],
 (.seq (.reg [] [.o 4 (.mv (.c (.nilp))),
 .o 5 (.mv (.c (.i .i64 0))),
 .o 6 (.mv (.c (.i .i64 0)))] false [0,1] [])
 (.seq (.blk 0 (.seq (.reg [] [.o 13 (.mv (.t 1)),
 .o 14 (.call n_strings_HasPrefix [.k 13,.c (.s ⟨#[67,82,89,79]⟩)]),
 .o 15 (.un .not (.k 14)),
 .o 12 (.mv (.k 15))] false [0,1,12] [])
 (.cond 12 (.seq (.reg [] [.o 4 (.mv (.c (.nilp))),
 .o 5 (.mv (.c (.i .i64 0))),
 .o 6 (.mv (.c (.i .i64 10)))] false [4,5,6] [])
 .ret)
 (.seq (.reg [] [.o 17 (.mv (.t 1)),
 .o 18 (.len true (.k 17)),
 .o 19 (.bin .gtr (.k 18) (.c (.i .i64 65536))),
 .o 16 (.mv (.k 19))] false [0,1,16] [])
 (.cond 16 (.seq (.reg [] [.o 4 (.mv (.c (.nilp))),
 .o 5 (.mv (.c (.i .i64 0))),
 .o 6 (.mv (.c (.i .i64 3)))] false [4,5,6] [])
 .ret)
 .skip)))))
 (.seq (.reg [] [.o 20 (.mv (.t 1)),
 .o 21 (.call n_octet_Of [.k 20]),
 .o 7 (.mv (.k 21))] false [0,1,7] [])
 (.seq (.reg [] [.o 22 (.mv (.t 7)),
 .o 23 (.call n_octet_In_Bytes [.k 22,.c (.i .i64 4)])] false [0,1,7] [])
 (.seq (.reg [] [.o 24 (.mv (.t 7)),
 .o 25 (.call n_octet_In_Byte [.k 24]),
 .o 26 (.mv (.t 7)),
 .o 27 (.call n_octet_In_Byte [.k 26]),
 .o 28 (.cv (.int .i64) (.k 27)),
 .o 29 (.mv (.t 7)),
 .o 30 (.call n_octet_In_Word [.k 29]),
 .o 31 (.cv (.int .i64) (.k 30)),
 .o 8 (.mv (.k 25)),
 .o 9 (.mv (.k 28)),
 .o 10 (.mv (.k 31))] false [0,1,7,8,9,10] [])
 (.seq (.blk 1 (.seq (.reg [] [.o 33 (.mv (.t 1)),
 .o 34 (.len true (.k 33)),
 .o 35 (.bin .gtr (.k 34) (.c (.i .i64 4))),
 .o 36 (.mv (.k 35)),
 .c 36 true 37 (.mv (.k 8)),
 .c 36 true 38 (.bin .neq (.k 37) (.c (.i .u8 4))),
 .o 39 (.pick (.k 36) (.k 38) (.c (.b false))),
 .o 32 (.mv (.k 39))] false [0,1,7,9,10,32] [])
 (.cond 32 (.seq (.reg [] [.o 4 (.mv (.c (.nilp))),
 .o 5 (.mv (.c (.i .i64 0))),
 .o 6 (.mv (.c (.i .i64 8)))] false [4,5,6] [])
 .ret)
 (.seq (.reg [] [.o 41 (.mv (.t 7)),
 .o 42 (.call n_octet_In_Err [.k 41]),
 .o 43 (.bin .neq (.k 42) (.c (.i .i64 0))),
 .o 40 (.mv (.k 43))] false [0,1,7,9,10,40] [])
 (.cond 40 (.seq (.reg [] [.o 44 (.mv (.k 7)),
 .o 45 (.call n_octet_In_Err [.k 44]),
 .o 4 (.mv (.c (.nilp))),
 .o 5 (.mv (.c (.i .i64 0))),
 .o 6 (.mv (.k 45))] false [4,5,6] [])
 .ret)
 (.seq (.reg [] [.o 47 (.mv (.t 10)),
 .o 48 (.mv (.t 1)),
 .o 49 (.len true (.k 48)),
 .o 50 (.bin .gtr (.k 47) (.k 49)),
 .o 46 (.mv (.k 50))] false [0,1,9,10,46] [])
 (.cond 46 (.seq (.reg [] [.o 4 (.mv (.c (.nilp))),
 .o 5 (.mv (.c (.i .i64 0))),
 .o 6 (.mv (.c (.i .i64 1)))] false [4,5,6] [])
 .ret)
 (.seq (.reg [] [.o 52 (.mv (.k 10)),
 .o 53 (.mv (.t 1)),
 .o 54 (.len true (.k 53)),
 .o 55 (.bin .lss (.k 52) (.k 54)),
 .o 51 (.mv (.k 55))] false [0,1,9,51] [])
 (.cond 51 (.seq (.reg [] [.o 4 (.mv (.c (.nilp))),
 .o 5 (.mv (.c (.i .i64 0))),
 .o 6 (.mv (.c (.i .i64 2)))] false [4,5,6] [])
 .ret)
 .skip)))))))))
 (.seq (.reg [] [.o 11 (.mv (.c (.i .i64 0)))] false [0,1,9] [])
 (.seq (.reg [] [.o 57 (.mv (.t 0)),
 .o 58 (.mv (.t 0)),
 .o 59 (.nc (.k 58)),
 .o 60 (.fa 0 (.k 59)),
 .o 61 (.ld false 1 .cp (.k 60)),
 .o 62 (.mv (.k 1)),
 .o 63 (.call n_crc_Table_Open [.k 61,.k 62]),
 .o 56 (.mv (.k 63)),
 .o 64 (.ex false 0 56),
 .o 65 (.ex false 1 56),
 .o 66 (.nc (.k 57)),
 .o 67 (.fa 1 (.k 66)),
 .s (.st 1 (.k 67) (.k 64)),
 .o 11 (.mv (.k 65))] false [0,9,11] [])
 (.seq (.reg [] [.o 68 (.mv (.k 0)),
 .o 69 (.nc (.k 68)),
 .o 70 (.fa 1 (.k 69)),
 .o 71 (.ld false 1 .cp (.k 70)),
 .o 72 (.call n_octet_Of [.k 71]),
 .o 7 (.mv (.k 72))] false [7,9,11] [])
 (.seq (.reg [] [.o 73 (.mv (.t 7)),
 .o 74 (.call n_octet_In_Bytes [.k 73,.c (.i .i64 10)])] false [7,9,11] [])
 (.seq (.reg [] [.o 75 (.mv (.k 7)),
 .o 76 (.mv (.k 9)),
 .o 77 (.mv (.k 11)),
 .o 4 (.mv (.k 75)),
 .o 5 (.mv (.k 76)),
 .o 6 (.mv (.k 77))] false [4,5,6] [])
 .ret)))))))))))⟩

def F_file_reader_sections : F := ⟨2,[.inl 4],
 (.seq (.reg [] [.o 4 (.mv (.c (.i .i64 0)))] false [0,1] [])
 (.seq (.reg [] [.o 13 (.mv (.t 1)),
 .o 14 (.call n_octet_In_Byte [.k 13]),
 .o 15 (.cv (.int .i64) (.k 14)),
 .o 5 (.mv (.k 15))] false [0,1,5] [])
 (.seq (.blk 0 (.seq (.reg [] [.o 17 (.mv (.t 1)),
 .o 18 (.call n_octet_In_Err [.k 17]),
 .o 19 (.bin .neq (.k 18) (.c (.i .i64 0))),
 .o 16 (.mv (.k 19))] false [0,1,5,16] [])
 (.cond 16 (.seq (.reg [] [.o 20 (.mv (.k 1)),
 .o 21 (.call n_octet_In_Err [.k 20]),
 .o 4 (.mv (.k 21))] false [4] [])
 .ret)
 (.seq (.reg [] [.o 23 (.mv (.t 5)),
 .o 24 (.bin .neq (.k 23) (.c (.i .i64 2))),
 .o 22 (.mv (.k 24))] false [0,1,5,22] [])
 (.cond 22 (.seq (.reg [] [.o 4 (.mv (.c (.i .i64 2)))] false [4] [])
 .ret)
 .skip)))))
 (.seq (.reg [] [.o 25 (.mv (.t 5)),
 .o 26 (.bin .mul (.c (.i .i64 13)) (.k 25)),
 .o 27 (.bin .add (.c (.i .i64 11)) (.k 26)),
 .o 6 (.mv (.k 27))] false [0,1,5,6] [])
 (.seq (.seq (.reg [] [.o 28 (.mv (.k 5)),
 .o 29 (.mv (.c (.i .i64 0)))] false [0,1,6,28,29] [])
 (.blk 1 (.loop (.seq (.reg [] [.o 30 (.bin .lss (.t 29) (.t 28))] false [0,1,6,28,29,30] [])
 (.seq (.cond 30 .skip
 (.exit 1))
 (.seq (.blk 2 (.seq (.reg [] [.o 31 (.mv (.t 29)),
 .o 7 (.mv (.k 31))] false [0,1,6,7,28,29] [])
 (.seq (.reg [] [.o 32 (.mv (.t 1)),
 .o 33 (.call n_octet_In_Byte [.k 32]),
 .o 34 (.cv (.int .i64) (.k 33)),
 .o 35 (.mv (.t 1)),
 .o 36 (.call n_octet_In_Word [.k 35]),
 .o 37 (.cv (.int .i64) (.k 36)),
 .o 38 (.mv (.t 1)),
 .o 39 (.call n_octet_In_Word [.k 38]),
 .o 40 (.cv (.int .i64) (.k 39)),
 .o 41 (.mv (.t 1)),
 .o 42 (.call n_octet_In_Word [.k 41]),
 .o 8 (.mv (.k 34)),
 .o 9 (.mv (.k 37)),
 .o 10 (.mv (.k 40)),
 .o 11 (.mv (.k 42))] false [0,1,6,7,8,9,10,11,28,29] [])
 (.seq (.blk 3 (.seq (.reg [] [.o 44 (.mv (.t 1)),
 .o 45 (.call n_octet_In_Err [.k 44]),
 .o 46 (.bin .neq (.k 45) (.c (.i .i64 0))),
 .o 43 (.mv (.k 46))] false [0,1,6,7,8,9,10,11,28,29,43] [])
 (.cond 43 (.seq (.reg [] [.o 47 (.mv (.k 1)),
 .o 48 (.call n_octet_In_Err [.k 47]),
 .o 4 (.mv (.k 48))] false [4] [])
 .ret)
 (.seq (.reg [] [.o 50 (.mv (.t 8)),
 .o 51 (.mv (.k 7)),
 .o 52 (.bin .add (.k 51) (.c (.i .i64 1))),
 .o 53 (.bin .neq (.k 50) (.k 52)),
 .o 54 (.mv (.k 53)),
 .c 54 false 55 (.mv (.t 9)),
 .c 54 false 56 (.mv (.k 6)),
 .c 54 false 57 (.bin .neq (.k 55) (.k 56)),
 .o 58 (.pick (.k 54) (.c (.b true)) (.k 57)),
 .o 49 (.mv (.k 58))] false [0,1,8,9,10,11,28,29,49] [])
 (.cond 49 (.seq (.reg [] [.o 4 (.mv (.c (.i .i64 2)))] false [4] [])
 .ret)
 (.seq (.reg [] [.o 60 (.mv (.t 10)),
 .o 61 (.mv (.t 0)),
 .o 62 (.nc (.k 61)),
 .o 63 (.fa 1 (.k 62)),
 .o 64 (.ld false 1 .cp (.k 63)),
 .o 65 (.len true (.k 64)),
 .o 66 (.mv (.t 9)),
 .o 67 (.bin .sub (.k 65) (.k 66)),
 .o 68 (.bin .gtr (.k 60) (.k 67)),
 .o 59 (.mv (.k 68))] false [0,1,8,9,10,11,28,29,59] [])
 (.cond 59 (.seq (.reg [] [.o 4 (.mv (.c (.i .i64 1)))] false [4] [])
 .ret)
 .skip)))))))
 (.seq (.reg [] [.o 69 (.mv (.t 9)),
 .o 70 (.mv (.k 10)),
 .o 71 (.bin .add (.k 69) (.k 70)),
 .o 6 (.mv (.k 71))] false [0,1,6,8,9,11,28,29] [])
 (.seq (.reg [] [.o 72 (.mv (.t 0)),
 .o 73 (.nc (.k 72)),
 .o 74 (.fa 1 (.k 73)),
 .o 75 (.ld false 1 .cp (.k 74)),
 .o 76 (.mv (.k 9)),
 .o 77 (.mv (.t 6)),
 .o 78 (.ss (.k 75) (some (.k 76)) (some (.k 77))),
 .o 12 (.mv (.k 78))] false [0,1,6,8,11,12,28,29] [])
 (.seq (.seq (.reg [] [.o 79 (.mv (.t 0)),
 .o 80 (.nc (.k 79)),
 .o 81 (.fa 0 (.k 80)),
 .o 82 (.ld false 1 .cp (.k 81)),
 .o 83 (.mv (.t 12)),
 .z 84 (.bs 1 1 (.s ⟨#[]⟩) [(0,.k 83)]) 2,
 .o 85 (.call n_crc_Table_Sum [.k 82,.k 84]),
 .o 86 (.mv (.k 11)),
 .o 87 (.bin .neq (.k 85) (.k 86))] false [0,1,6,8,12,28,29,87] [])
 (.cond 87 (.seq (.reg [] [.o 4 (.mv (.c (.i .i64 7)))] false [4] [])
 .ret)
 .skip))
 (.reg [] [.o 88 (.mv (.t 0)),
 .o 89 (.mv (.t 0)),
 .o 90 (.nc (.k 89)),
 .o 91 (.fa 2 (.k 90)),
 .o 92 (.ld false 1 .tk (.k 91)),
 .o 93 (.mv (.k 8)),
 .o 94 (.mv (.k 12)),
 .o 95 (.bd ([.i .i64 0,.s ⟨#[]⟩]) [(0,1,.k 93),(1,1,.k 94)]),
 .o 96 (.bs 2 1 (.a ([.i .i64 0,.s ⟨#[]⟩])) [(0,.k 95)]),
 .z 97 (.app 2 24 (.k 92) (.k 96)) 1,
 .o 98 (.nc (.k 88)),
 .o 99 (.fa 2 (.k 98)),
 .s (.st 1 (.k 99) (.k 97))] false [0,1,6,28,29] []))))))))
 (.reg [] [.o 100 (.bin .add (.k 29) (.c (.i .i64 1))),
 .o 29 (.mv (.k 100))] false [0,1,6,28,29] [])))))))
 (.seq (.seq (.reg [] [.o 101 (.mv (.k 6)),
 .o 102 (.mv (.k 0)),
 .o 103 (.nc (.k 102)),
 .o 104 (.fa 1 (.k 103)),
 .o 105 (.ld false 1 .cp (.k 104)),
 .o 106 (.len true (.k 105)),
 .o 107 (.bin .neq (.k 101) (.k 106))] false [107] [])
 (.cond 107 (.seq (.reg [] [.o 4 (.mv (.c (.i .i64 2)))] false [4] [])
 .ret)
 .skip))
 (.seq (.reg [] [.o 4 (.mv (.c (.i .i64 0)))] false [4] [])
 .ret)))))))⟩

def F_section_Read : F := ⟨2,[.inr (4,true,5),.inl 5],
 (.seq (.reg [.zz 1] [.o 4 (.al ([.i .i64 0,.i .i64 0,.i .u64 0,.l .o 1 [],.l .o 1 []])),
 .o 5 (.mv (.c (.i .i64 0)))] false [0,1,4] [4])
 (.seq (.blk 0 (.seq (.reg [] [.o 10 (.mv (.t 0)),
 .o 11 (.bin .lss (.k 10) (.c (.i .i64 1))),
 .o 12 (.mv (.k 11)),
 .c 12 false 13 (.mv (.t 0)),
 .c 12 false 14 (.bin .gtr (.k 13) (.c (.i .i64 4))),
 .o 15 (.pick (.k 12) (.c (.b true)) (.k 14)),
 .o 9 (.mv (.k 15))] false [0,1,4,9] [4])
 (.cond 9 (.seq (.reg [] [.o 16 (.bd ([.i .i64 0,.i .i64 0,.i .u64 0,.l .o 1 [],.l .o 1 []]) []),
 .s (.st 5 (.t 4) (.k 16)),
 .o 5 (.mv (.c (.i .i64 6)))] false [4,5] [4])
 .ret)
 (.seq (.reg [] [.o 18 (.mv (.t 1)),
 .o 19 (.len false (.k 18)),
 .o 20 (.bin .neq (.k 19) (.c (.i .i64 2))),
 .o 21 (.mv (.k 20)),
 .c 21 false 22 (.mv (.t 1)),
 .c 21 false 23 (.ia 2 none (.k 22) (.c (.i .i64 0))),
 .c 21 false 24 (.fa 0 (.k 23)),
 .c 21 false 25 (.ld false 1 .cp (.k 24)),
 .c 21 false 26 (.bin .neq (.k 25) (.c (.i .i64 1))),
 .o 27 (.pick (.k 21) (.c (.b true)) (.k 26)),
 .o 28 (.mv (.k 27)),
 .c 28 false 29 (.mv (.t 1)),
 .c 28 false 30 (.ia 2 none (.k 29) (.c (.i .i64 1))),
 .c 28 false 31 (.fa 0 (.k 30)),
 .c 28 false 32 (.ld false 1 .cp (.k 31)),
 .c 28 false 33 (.bin .neq (.k 32) (.c (.i .i64 2))),
 .o 34 (.pick (.k 28) (.c (.b true)) (.k 33)),
 .o 17 (.mv (.k 34))] false [0,1,4,17] [4])
 (.cond 17 (.seq (.reg [] [.o 35 (.bd ([.i .i64 0,.i .i64 0,.i .u64 0,.l .o 1 [],.l .o 1 []]) []),
 .s (.st 5 (.t 4) (.k 35)),
 .o 5 (.mv (.c (.i .i64 2)))] false [4,5] [4])
 .ret)
 .skip)))))
 (.seq (.reg [] [.o 36 (.mv (.t 1)),
 .o 37 (.ia 2 none (.k 36) (.c (.i .i64 0))),
 .o 38 (.fa 1 (.k 37)),
 .o 39 (.ld false 1 .cp (.k 38)),
 .o 40 (.call n_octet_Of [.k 39]),
 .o 6 (.mv (.k 40))] false [0,1,4,6] [4])
 (.seq (.reg [] [.o 41 (.mv (.t 0)),
 .o 42 (.mv (.t 6)),
 .o 43 (.call n_octet_In_Num [.k 42,.c (.i .u64 255)]),
 .o 44 (.cv (.int .i64) (.k 43)),
 .o 45 (.bd ([.i .i64 0,.i .i64 0,.i .u64 0,.l .o 1 [],.l .o 1 []]) [(0,1,.k 41),(1,1,.k 44)]),
 .o 7 (.al ([.i .i64 0,.i .i64 0,.i .u64 0,.l .o 1 [],.l .o 1 []])),
 .s (.st 5 (.t 7) (.k 45))] false [0,1,4,6,7] [4,7])
 (.seq (.reg [] [.o 46 (.mv (.t 6)),
 .o 47 (.call n_octet_In_Num [.k 46,.c (.i .u64 18446744073709551615)]),
 .o 48 (.fa 2 (.t 7)),
 .s (.st 1 (.k 48) (.k 47))] false [0,1,4,6,7] [4,7])
 (.seq (.reg [] [.o 49 (.mv (.k 6)),
 .o 50 (.call n_octet_In_End [.k 49]),
 .o 8 (.mv (.k 50))] false [0,1,4,7,8] [4,7])
 (.seq (.seq (.reg [] [.o 51 (.mv (.t 8)),
 .o 52 (.bin .eql (.k 51) (.c (.i .i64 0)))] false [0,1,4,7,8,52] [4,7])
 (.cond 52 (.reg [] [.o 54 (.mv (.k 0)),
 .u 55 (.fa 1 (.t 7)) [0] 0,
 .u 56 (.ld false 1 .cp (.k 55)) [0] 0,
 .u 57 (.mv (.k 1)) [0,1,2] 0,
 .u 58 (.ia 2 none (.k 57) (.c (.i .i64 1))) [0,1,2] 0,
 .u 59 (.fa 1 (.k 58)) [0,1,2] 0,
 .u 60 (.ld false 1 .cp (.k 59)) [0,1,2] 0,
 .u 61 (.call n_octet_Of [.k 60]) [0,1,2] 0,
 .o 62 (.call n_section_read [.k 54,.k 56,.k 61]),
 .o 53 (.mv (.k 62)),
 .o 63 (.ex false 0 53),
 .u 64 (.ex false 1 53) [10] 0,
 .u 65 (.ex false 2 53) [10,11] 0,
 .u 66 (.fa 3 (.t 7)) [11,12] 0,
 ⟨none,none,.st 1 (.k 66) (.k 63),[11,12],0⟩,
 .u 67 (.fa 4 (.t 7)) [12] 0,
 ⟨none,none,.st 1 (.k 67) (.k 64),[12],0⟩,
 .o 8 (.mv (.k 65))] true [4,7,8] [4,7])
 .skip))
 (.seq (.seq (.reg [] [.o 68 (.mv (.t 8)),
 .o 69 (.bin .neq (.k 68) (.c (.i .i64 0)))] false [4,7,8,69] [4,7])
 (.cond 69 (.seq (.reg [] [.o 70 (.bd ([.i .i64 0,.i .i64 0,.i .u64 0,.l .o 1 [],.l .o 1 []]) []),
 .o 71 (.mv (.k 8)),
 .s (.st 5 (.t 4) (.k 70)),
 .o 5 (.mv (.k 71))] false [4,5] [4])
 .ret)
 .skip))
 (.seq (.reg [] [.o 72 (.ld true 5 .tk (.k 7)),
 .s (.st 5 (.t 4) (.k 72)),
 .o 5 (.mv (.c (.i .i64 0)))] false [4,5] [4])
 .ret)))))))))⟩

def F_strings_HasPrefix : F := ⟨2,[.inl 4],
 (.seq (.reg [] [.o 4 (.mv (.c (.b false)))] false [0,1] [])
 (.seq (.reg [] [.o 5 (.mv (.k 0)),
 .o 6 (.mv (.k 1)),
 .o 7 (.call n_internal_stringslite_HasPrefix [.k 5,.k 6]),
 .o 4 (.mv (.k 7))] false [4] [])
 .ret))⟩

def F_c_ref04_With : F := ⟨2,[.inl 4],
 (.seq (.reg [.zz 0] [.o 3 (.bx (.k 1)),
 .o 4 (.mv (.c (.l .o 2 [])))] false [0,3] [3])
 (.seq (.reg [] [.z 9 (.bs 2 0 (.a ([.i .u64 0,.i .i64 0])) []) 1,
 .o 5 (.mv (.k 9))] false [0,3,5] [3])
 (.seq (.reg [] [.o 6 (.mv (.c (.b false)))] false [0,3,5,6] [3])
 (.seq (.seq (.reg [] [.o 10 (.mv (.k 0)),
 .o 11 (.len false (.t 10)),
 .o 12 (.mv (.c (.i .i64 0)))] false [3,5,6,10,11,12] [3])
 (.blk 0 (.loop (.seq (.reg [] [.o 13 (.bin .lss (.t 12) (.t 11))] false [3,5,6,10,11,12,13] [3])
 (.seq (.cond 13 .skip
 (.exit 0))
 (.seq (.blk 1 (.seq (.reg [] [.o 14 (.ia 2 none (.t 10) (.t 12)),
 .o 15 (.ld true 2 .cp (.k 14)),
 .o 8 (.al ([.i .u64 0,.i .i64 0])),
 .s (.st 2 (.t 8) (.k 15))] false [3,5,6,8,10,11,12] [3,8])
 (.seq (.seq (.reg [] [.o 16 (.mv (.t 6)),
 .o 17 (.un .not (.k 16)),
 .o 18 (.mv (.k 17)),
 .c 18 true 19 (.ld true 2 .cp (.t 3)),
 .c 18 true 20 (.ld true 2 .cp (.t 8)),
 .c 18 true 21 (.call n_c_ref04_Cmp [.k 19,.k 20]),
 .c 18 true 22 (.bin .lss (.k 21) (.c (.i .i64 0))),
 .o 23 (.pick (.k 18) (.k 22) (.c (.b false)))] false [3,5,6,8,10,11,12,23] [3,8])
 (.cond 23 (.seq (.reg [] [.o 24 (.mv (.k 5)),
 .o 25 (.ld true 2 .cp (.t 3)),
 .o 26 (.bs 2 1 (.a ([.i .u64 0,.i .i64 0])) [(0,.k 25)]),
 .z 27 (.app 2 16 (.k 24) (.k 26)) 1,
 .o 5 (.mv (.k 27))] false [3,5,8,10,11,12] [3,8])
 (.reg [] [.o 6 (.mv (.c (.b true)))] false [3,5,6,8,10,11,12] [3,8]))
 .skip))
 (.reg [] [.o 28 (.mv (.k 5)),
 .o 29 (.ld true 2 .cp (.k 8)),
 .o 30 (.bs 2 1 (.a ([.i .u64 0,.i .i64 0])) [(0,.k 29)]),
 .z 31 (.app 2 16 (.k 28) (.k 30)) 1,
 .o 5 (.mv (.k 31))] false [3,5,6,10,11,12] [3]))))
 (.reg [] [.o 32 (.bin .add (.k 12) (.c (.i .i64 1))),
 .o 12 (.mv (.k 32))] false [3,5,6,10,11,12] [3])))))))
 (.seq (.seq (.reg [] [.o 33 (.mv (.k 6)),
 .o 34 (.un .not (.k 33))] false [3,5,34] [3])
 (.cond 34 (.reg [] [.o 35 (.mv (.k 5)),
 .o 36 (.ld true 2 .cp (.k 3)),
 .o 37 (.bs 2 1 (.a ([.i .u64 0,.i .i64 0])) [(0,.k 36)]),
 .z 38 (.app 2 16 (.k 35) (.k 37)) 1,
 .o 5 (.mv (.k 38))] false [5] [])
 .skip))
 (.seq (.reg [] [.o 39 (.mv (.k 5)),
 .o 4 (.mv (.k 39))] false [4] [])
 .ret))))))⟩

def F_c_ref19_Items : F := ⟨1,[.inl 2],
 (.seq (.reg [.zz 0] [.o 2 (.mv (.c (.s ⟨#[]⟩)))] false [0] [])
 (.seq (.reg [] [.o 6 (.mv (.t 0)),
 .o 7 (.len false (.k 6)),
 .o 8 (.cv (.int .u64) (.k 7)),
 .o 9 (.call n_c_ref01_Num2 [.k 8]),
 .o 3 (.mv (.k 9))] false [0,3] [])
 (.seq (.seq (.reg [] [.o 10 (.mv (.k 0)),
 .o 11 (.len false (.t 10)),
 .o 12 (.mv (.c (.i .i64 0)))] false [3,10,11,12] [])
 (.blk 0 (.loop (.seq (.reg [] [.o 13 (.bin .lss (.t 12) (.t 11))] false [3,10,11,12,13] [])
 (.seq (.cond 13 .skip
 (.exit 0))
 (.seq (.blk 1 (.seq (.reg [] [.o 14 (.ia 2 none (.t 10) (.t 12)),
 .o 15 (.ld true 2 .cp (.k 14)),
 .o 5 (.al ([.i .u64 0,.i .i64 0])),
 .s (.st 2 (.t 5) (.k 15))] false [3,5,10,11,12] [5])
 (.reg [] [.o 16 (.mv (.k 3)),
 .u 17 (.fa 0 (.t 5)) [0] 0,
 .u 18 (.ld false 1 .cp (.k 17)) [0] 0,
 .u 19 (.call n_c_ref03_Key [.k 18]) [0] 0,
 .u 20 (.call n_c_ref01_Fixed [.k 19,.c (.i .i64 8)]) [0] 0,
 .u 21 (.fa 1 (.t 5)) [0,1,2,3,4] 0,
 .u 22 (.ld false 1 .cp (.k 21)) [0,1,2,3,4] 0,
 .u 23 (.call n_c_ref01_Int [.k 22]) [0] 0,
 .u 24 (.bin .add (.k 20) (.k 23)) [0] 0,
 .o 25 (.bin .add (.k 16) (.k 24)),
 .o 3 (.mv (.k 25))] true [3,10,11,12] [])))
 (.reg [] [.o 26 (.bin .add (.k 12) (.c (.i .i64 1))),
 .o 12 (.mv (.k 26))] false [3,10,11,12] [])))))))
 (.seq (.reg [] [.o 27 (.mv (.k 3)),
 .o 2 (.mv (.k 27))] false [2] [])
 .ret))))⟩

def F_c_ref20_word : F := ⟨1,[.inl 2],
 (.seq (.reg [] [.o 2 (.mv (.c (.s ⟨#[]⟩)))] false [0] [])
 (.seq (.reg [] [.o 3 (.mv (.k 0)),
 .o 4 (.cv (.int .u64) (.k 3)),
 .o 5 (.call n_c_ref01_Fixed [.k 4,.c (.i .i64 4)]),
 .o 2 (.mv (.k 5))] false [2] [])
 .ret))⟩

def F_c_ref20_entry : F := ⟨3,[.inl 6],
 (.seq (.reg [] [.o 6 (.mv (.c (.s ⟨#[]⟩)))] false [0,1,2] [])
 (.seq (.reg [] [.o 7 (.mv (.k 0)),
 .o 8 (.cv (.int .u8) (.k 7)),
 .z 9 (.bs 1 1 (.i .u8 0) [(0,.k 8)]) 1,
 .o 10 (.cv .str (.k 9)),
 .u 11 (.mv (.k 1)) [0,1,2,3] 0,
 .u 12 (.call n_c_ref20_word [.k 11]) [0,1,2,3] 0,
 .o 13 (.bin .add (.k 10) (.k 12)),
 .u 14 (.mv (.t 2)) [0,1,2,3,4,5,6] 0,
 .u 15 (.len true (.k 14)) [0,1,2,3,4,5,6] 0,
 .u 16 (.call n_c_ref20_word [.k 15]) [0,1,2,3,6] 0,
 .o 17 (.bin .add (.k 13) (.k 16)),
 .u 18 (.mv (.t 2)) [0,1,2,3,4,5,6,7,8,9,10] 0,
 .u 19 (.call n_c_ref02_Sum [.k 18]) [0,1,2,3,6,10] 0,
 .u 20 (.cv (.int .i64) (.k 19)) [0,1,2,3,6,10] 0,
 .u 21 (.call n_c_ref20_word [.k 20]) [0,1,2,3,6,10] 0,
 .o 22 (.bin .add (.k 17) (.k 21)),
 .o 6 (.mv (.k 22))] true [6] [])
 .ret))⟩

def F_c_ref03_Bits : F := ⟨1,[.inl 2],
 (.seq (.reg [] [.o 2 (.mv (.c (.i .u64 0)))] false [0] [])
 (.seq (.seq (.reg [] [.o 3 (.mv (.t 0)),
 .o 4 (.bin .rem (.k 3) (.c (.i .u64 9223372036854775808))),
 .o 5 (.bin .gtr (.k 4) (.c (.i .u64 9218868437227405312)))] false [0,5] [])
 (.cond 5 (.seq (.reg [] [.o 2 (.mv (.c (.i .u64 9221120237041090560)))] false [2] [])
 .ret)
 .skip))
 (.seq (.reg [] [.o 6 (.mv (.k 0)),
 .o 2 (.mv (.k 6))] false [2] [])
 .ret)))⟩

def F_c_law03_F : F := ⟨1,[.inl 2],
 (.seq (.reg [] [.o 2 (.mv (.c (.f .f64 0)))] false [0] [])
 (.seq (.reg [] [.o 3 (.mv (.k 0)),
 .o 4 (.frbits (.k 3)),
 .o 2 (.mv (.k 4))] false [2] [])
 .ret))⟩

def F_real_Canon : F := ⟨1,[.inl 2],
 (.seq (.reg [] [.o 2 (.mv (.c (.f .f64 0)))] false [0] [])
 (.seq (.seq (.reg [] [.o 3 (.mv (.t 0)),
 .o 4 (.mv (.t 0)),
 .o 5 (.bin .neq (.k 3) (.k 4))] false [0,5] [])
 (.cond 5 (.seq (.reg [] [.o 6 (.frbits (.c (.i .u64 9221120237041090560))),
 .o 2 (.mv (.k 6))] false [2] [])
 .ret)
 .skip))
 (.seq (.reg [] [.o 7 (.mv (.k 0)),
 .o 2 (.mv (.k 7))] false [2] [])
 .ret)))⟩

def F_c_ref02_Bits : F := ⟨1,[.inl 2],
 (.seq (.reg [] [.o 2 (.mv (.c (.l .x 1 [])))] false [0] [])
 (.seq (.reg [] [.o 7 (.bs 1 0 (.i .i64 0) []),
 .o 3 (.mv (.k 7))] false [0,3] [])
 (.seq (.seq (.reg [] [.o 4 (.mv (.c (.i .i64 0)))] false [0,3,4] [])
 (.blk 0 (.loop (.seq (.seq (.reg [] [.o 8 (.mv (.t 4)),
 .o 9 (.mv (.t 0)),
 .o 10 (.len true (.k 9)),
 .o 11 (.bin .lss (.k 8) (.k 10))] false [0,3,4,11] [])
 (.cond 11 .skip
 (.exit 0)))
 (.seq (.blk 1 (.seq (.reg [] [.o 14 (.mv (.t 0)),
 .o 15 (.mv (.t 4)),
 .o 16 (.ixs (.k 14) (.k 15)),
 .o 17 (.cv (.int .i64) (.k 16)),
 .o 5 (.mv (.k 17))] false [0,3,4,5] [])
 (.seq (.reg [] [.o 6 (.mv (.c (.i .i64 0)))] false [0,3,4,5,6] [])
 (.blk 2 (.loop (.seq (.seq (.reg [] [.o 18 (.mv (.t 6)),
 .o 19 (.bin .lss (.k 18) (.c (.i .i64 8)))] false [0,3,4,5,6,19] [])
 (.cond 19 .skip
 (.exit 2)))
 (.seq (.blk 3 (.seq (.reg [] [.o 22 (.mv (.k 3)),
 .o 23 (.mv (.t 5)),
 .o 24 (.bin .rem (.k 23) (.c (.i .i64 2))),
 .o 25 (.bs 1 1 (.i .i64 0) [(0,.k 24)]),
 .o 26 (.app 1 8 (.k 22) (.k 25)),
 .o 3 (.mv (.k 26))] false [0,3,4,5,6] [])
 (.reg [] [.o 27 (.mv (.k 5)),
 .o 28 (.bin .quo (.k 27) (.c (.i .i64 2))),
 .o 5 (.mv (.k 28))] false [0,3,4,5,6] [])))
 (.reg [] [.o 20 (.mv (.k 6)),
 .o 21 (.bin .add (.k 20) (.c (.i .i64 1))),
 .o 6 (.mv (.k 21))] false [0,3,4,5,6] []))))))))
 (.reg [] [.o 12 (.mv (.k 4)),
 .o 13 (.bin .add (.k 12) (.c (.i .i64 1))),
 .o 4 (.mv (.k 13))] false [0,3,4] []))))))
 (.seq (.reg [] [.o 29 (.mv (.k 3)),
 .o 2 (.mv (.k 29))] false [2] [])
 .ret))))⟩

def F_crc_Table_Open : F := ⟨2,[.inl 4,.inl 5],
 (.seq (.reg [] [.o 4 (.mv (.c (.s ⟨#[]⟩))),
 .o 5 (.mv (.c (.i .i64 0)))] false [0,1] [])
 (.seq (.reg [] [.o 7 (.mv (.t 1)),
 .o 8 (.len true (.k 7)),
 .o 9 (.bin .sub (.k 8) (.c (.i .i64 4))),
 .o 6 (.mv (.k 9))] false [0,1,6] [])
 (.seq (.seq (.reg [] [.o 10 (.mv (.t 6)),
 .o 11 (.bin .lss (.k 10) (.c (.i .i64 0)))] false [0,1,6,11] [])
 (.cond 11 (.seq (.reg [] [.o 4 (.mv (.c (.s ⟨#[]⟩))),
 .o 5 (.mv (.c (.i .i64 1)))] false [4,5] [])
 .ret)
 .skip))
 (.seq (.seq (.reg [] [.o 12 (.mv (.t 1)),
 .u 13 (.mv (.t 6)) [0] 0,
 .o 14 (.ss (.k 12) (some (.k 13)) none),
 .o 15 (.call n_octet_Of [.k 14]),
 .o 16 (.call n_octet_In_Word [.k 15]),
 .u 17 (.mv (.k 0)) [0,1,2,3,4] 0,
 .u 18 (.mv (.t 1)) [0,1,2,3,4,5] 0,
 .u 19 (.mv (.t 6)) [0,1,2,3,4,5,6] 0,
 .u 20 (.ss (.k 18) none (some (.k 19))) [0,1,2,3,4,5] 0,
 .u 21 (.bs 1 1 (.s ⟨#[]⟩) [(0,.k 20)]) [0,1,2,3,4,5] 2,
 .o 22 (.call n_crc_Table_Sum [.k 17,.k 21]),
 .o 23 (.bin .neq (.k 16) (.k 22))] true [1,6,23] [])
 (.cond 23 (.seq (.reg [] [.o 4 (.mv (.c (.s ⟨#[]⟩))),
 .o 5 (.mv (.c (.i .i64 7)))] false [4,5] [])
 .ret)
 .skip))
 (.seq (.reg [] [.o 24 (.mv (.k 1)),
 .o 25 (.mv (.k 6)),
 .o 26 (.ss (.k 24) none (some (.k 25))),
 .o 4 (.mv (.k 26)),
 .o 5 (.mv (.c (.i .i64 0)))] false [4,5] [])
 .ret)))))⟩

def F_elder_parse : F := ⟨2,[.inr (4,true,5),.inl 5],
 (.seq (.reg [] [.o 4 (.al ([.i .i64 0,.i .i64 0,.i .u64 0,.l .o 1 [],.l .o 1 []])),
 .o 5 (.mv (.c (.i .i64 0)))] false [0,1,4] [4])
 (.seq (.reg [] [.o 10 (.mv (.k 1)),
 .o 11 (.call n_octet_Of [.k 10]),
 .o 6 (.mv (.k 11))] false [0,4,6] [4])
 (.seq (.reg [] [.o 12 (.mv (.t 6)),
 .o 13 (.call n_octet_In_Byte [.k 12]),
 .o 14 (.cv (.int .i64) (.k 13)),
 .o 7 (.mv (.k 14))] false [0,4,6,7] [4])
 (.seq (.blk 0 (.seq (.reg [] [.o 16 (.mv (.t 6)),
 .o 17 (.call n_octet_In_Err [.k 16]),
 .o 18 (.bin .neq (.k 17) (.c (.i .i64 0))),
 .o 15 (.mv (.k 18))] false [0,4,6,7,15] [4])
 (.cond 15 (.seq (.reg [] [.o 19 (.bd ([.i .i64 0,.i .i64 0,.i .u64 0,.l .o 1 [],.l .o 1 []]) []),
 .o 20 (.mv (.k 6)),
 .o 21 (.call n_octet_In_Err [.k 20]),
 .s (.st 5 (.t 4) (.k 19)),
 .o 5 (.mv (.k 21))] false [4,5] [4])
 .ret)
 (.seq (.reg [] [.o 23 (.mv (.t 7)),
 .o 24 (.call n_op_Of [.k 23]),
 .o 25 (.len false (.k 24)),
 .o 26 (.bin .eql (.k 25) (.c (.i .i64 0))),
 .o 22 (.mv (.k 26))] false [0,4,6,7,22] [4])
 (.cond 22 (.seq (.reg [] [.o 27 (.bd ([.i .i64 0,.i .i64 0,.i .u64 0,.l .o 1 [],.l .o 1 []]) []),
 .s (.st 5 (.t 4) (.k 27)),
 .o 5 (.mv (.c (.i .i64 6)))] false [4,5] [4])
 .ret)
 (.seq (.reg [] [.o 29 (.mv (.t 0)),
 .o 30 (.bin .eql (.k 29) (.c (.i .i64 3))),
 .o 28 (.mv (.k 30))] false [0,4,6,7,28] [4])
 (.cond 28 (.seq (.reg [] [.o 31 (.mv (.k 7)),
 .o 32 (.mv (.k 6)),
 .o 33 (.call n_elder_third [.k 31,.k 32]),
 .o 34 (.ex false 0 33),
 .o 35 (.ex false 1 33),
 .s (.st 5 (.t 4) (.k 34)),
 .o 5 (.mv (.k 35))] false [4,5] [4])
 .ret)
 .skip)))))))
 (.seq (.reg [] [.o 36 (.mv (.t 7)),
 .o 37 (.mv (.t 6)),
 .o 38 (.call n_octet_In_Num [.k 37,.c (.i .u64 255)]),
 .o 39 (.cv (.int .i64) (.k 38)),
 .o 40 (.bd ([.i .i64 0,.i .i64 0,.i .u64 0,.l .o 1 [],.l .o 1 []]) [(0,1,.k 36),(1,1,.k 39)]),
 .o 8 (.al ([.i .i64 0,.i .i64 0,.i .u64 0,.l .o 1 [],.l .o 1 []])),
 .s (.st 5 (.t 8) (.k 40))] false [0,4,6,7,8] [4,8])
 (.seq (.seq (.reg [] [.o 41 (.mv (.t 6)),
 .o 42 (.call n_octet_In_Err [.k 41]),
 .o 43 (.bin .neq (.k 42) (.c (.i .i64 0)))] false [0,4,6,7,8,43] [4,8])
 (.cond 43 (.seq (.reg [] [.o 44 (.ld true 5 .cp (.k 8)),
 .u 45 (.mv (.k 6)) [0] 0,
 .u 46 (.call n_octet_In_Err [.k 45]) [0] 0,
 .s (.st 5 (.t 4) (.k 44)),
 .o 5 (.mv (.k 46))] true [4,5] [4])
 .ret)
 .skip))
 (.seq (.seq (.reg [] [.o 47 (.mv (.k 7)),
 .o 48 (.fa 1 (.t 8)),
 .o 49 (.ld false 1 .cp (.k 48)),
 .o 50 (.call n_op_Legal [.k 47,.k 49]),
 .o 9 (.mv (.k 50))] false [0,4,6,8,9] [4,8])
 (.seq (.reg [] [.o 51 (.mv (.t 9)),
 .o 52 (.bin .neq (.k 51) (.c (.i .i64 0)))] false [0,4,6,8,9,52] [4,8])
 (.cond 52 (.seq (.reg [] [.o 53 (.ld true 5 .tk (.k 8)),
 .o 54 (.mv (.k 9)),
 .s (.st 5 (.t 4) (.k 53)),
 .o 5 (.mv (.k 54))] false [4,5] [4])
 .ret)
 .skip)))
 (.seq (.seq (.reg [] [.o 55 (.mv (.k 0)),
 .o 56 (.bin .eql (.k 55) (.c (.i .i64 1)))] false [4,6,8,56] [4,8])
 (.cond 56 (.seq (.reg [] [.z 57 (.ld true 5 .tk (.k 8)) 2,
 .o 58 (.mv (.k 6)),
 .o 59 (.call n_elder_first [.k 57,.k 58]),
 .o 60 (.ex false 0 59),
 .o 61 (.ex false 1 59),
 .s (.st 5 (.t 4) (.k 60)),
 .o 5 (.mv (.k 61))] false [4,5] [4])
 .ret)
 .skip))
 (.seq (.reg [] [.o 62 (.ld true 5 .tk (.k 8)),
 .o 63 (.mv (.k 6)),
 .o 64 (.call n_elder_second [.k 62,.k 63]),
 .o 65 (.ex false 0 64),
 .o 66 (.ex false 1 64),
 .s (.st 5 (.t 4) (.k 65)),
 .o 5 (.mv (.k 66))] false [4,5] [4])
 .ret)))))))))⟩

def F_op_Legal : F := ⟨2,[.inl 4],
 (.seq (.reg [] [.o 4 (.mv (.c (.i .i64 0)))] false [0,1] [])
 (.seq (.blk 0 (.seq (.reg [] [.o 6 (.mv (.t 0)),
 .o 7 (.bin .lss (.k 6) (.c (.i .i64 1))),
 .o 8 (.mv (.k 7)),
 .c 8 false 9 (.mv (.t 0)),
 .c 8 false 10 (.bin .gtr (.k 9) (.c (.i .i64 4))),
 .o 11 (.pick (.k 8) (.c (.b true)) (.k 10)),
 .o 5 (.mv (.k 11))] false [0,1,5] [])
 (.cond 5 (.seq (.reg [] [.o 4 (.mv (.c (.i .i64 6)))] false [4] [])
 .ret)
 (.seq (.reg [] [.o 13 (.mv (.t 1)),
 .o 14 (.bin .lss (.k 13) (.c (.i .i64 1))),
 .o 15 (.mv (.k 14)),
 .c 15 false 16 (.mv (.t 1)),
 .c 15 false 17 (.bin .gtr (.k 16) (.c (.i .i64 16))),
 .o 18 (.pick (.k 15) (.c (.b true)) (.k 17)),
 .o 19 (.mv (.k 18)),
 .c 19 false 20 (.mv (.k 0)),
 .c 19 false 21 (.bin .eql (.k 20) (.c (.i .i64 4))),
 .c 19 false 22 (.mv (.k 21)),
 .c 22 true 23 (.mv (.t 1)),
 .c 22 true 24 (.mv (.k 1)),
 .c 22 true 25 (.bin .sub (.k 24) (.c (.i .i64 1))),
 .c 22 true 26 (.bin .and (.k 23) (.k 25)),
 .c 22 true 27 (.bin .neq (.k 26) (.c (.i .i64 0))),
 .c 19 false 28 (.pick (.k 22) (.k 27) (.c (.b false))),
 .o 29 (.pick (.k 19) (.c (.b true)) (.k 28)),
 .o 12 (.mv (.k 29))] false [12] [])
 (.cond 12 (.seq (.reg [] [.o 4 (.mv (.c (.i .i64 5)))] false [4] [])
 .ret)
 .skip)))))
 (.seq (.reg [] [.o 4 (.mv (.c (.i .i64 0)))] false [4] [])
 .ret)))⟩

def F_image_Shape : F := ⟨2,[.inl 4,.inl 5],
 (.seq (.reg [] [.o 4 (.mv (.c (.i .i64 0))),
 .o 5 (.mv (.c (.i .i64 0)))] false [0,1] [])
 (.seq (.seq (.reg [] [.o 6 (.mv (.k 0))] false [1,6] [])
 (.blk 0 (.seq (.reg [] [.o 8 (.bin .eql (.t 6) (.c (.i .i64 1))),
 .o 7 (.mv (.k 8))] false [1,6,7] [])
 (.cond 7 (.seq (.reg [] [.o 9 (.mv (.k 1)),
 .o 4 (.mv (.k 9)),
 .o 5 (.mv (.c (.i .i64 0)))] false [4,5] [])
 .ret)
 (.seq (.reg [] [.o 11 (.bin .eql (.t 6) (.c (.i .i64 2))),
 .o 10 (.mv (.k 11))] false [1,6,10] [])
 (.cond 10 (.seq (.reg [] [.o 4 (.mv (.c (.i .i64 1))),
 .o 5 (.mv (.c (.i .i64 0)))] false [4,5] [])
 .ret)
 (.seq (.reg [] [.o 13 (.bin .eql (.t 6) (.c (.i .i64 3))),
 .o 12 (.mv (.k 13))] false [1,6,12] [])
 (.cond 12 (.seq (.reg [] [.o 14 (.mv (.k 1)),
 .o 4 (.mv (.c (.i .i64 0))),
 .o 5 (.mv (.k 14))] false [4,5] [])
 .ret)
 (.seq (.reg [] [.o 16 (.bin .eql (.k 6) (.c (.i .i64 4))),
 .o 15 (.mv (.k 16))] false [15] [])
 (.cond 15 (.seq (.reg [] [.o 4 (.mv (.c (.i .i64 0))),
 .o 5 (.mv (.c (.i .i64 1)))] false [4,5] [])
 .ret)
 .skip))))))))))
 (.seq (.reg [] [.o 4 (.mv (.c (.i .i64 0))),
 .o 5 (.mv (.c (.i .i64 0)))] false [4,5] [])
 .ret)))⟩

def F_image_order : F := ⟨2,[.inl 4],
 (.seq (.reg [.zz 1] [.o 4 (.mv (.c (.i .i64 0)))] false [0,1] [])
 (.seq (.seq (.reg [] [.o 6 (.mv (.t 0)),
 .o 7 (.bin .eql (.k 6) (.c (.i .i64 1))),
 .o 8 (.mv (.k 7)),
 .c 8 true 9 (.mv (.t 1)),
 .c 8 true 10 (.len false (.k 9)),
 .c 8 true 11 (.bin .gtr (.k 10) (.c (.i .i64 62))),
 .o 12 (.pick (.k 8) (.k 11) (.c (.b false)))] false [0,1,12] [])
 (.cond 12 (.seq (.reg [] [.o 4 (.mv (.c (.i .i64 3)))] false [4] [])
 .ret)
 .skip))
 (.seq (.seq (.reg [] [.o 5 (.mv (.c (.i .i64 1)))] false [0,1,5] [])
 (.blk 0 (.loop (.seq (.seq (.reg [] [.o 13 (.mv (.t 0)),
 .o 14 (.bin .eql (.k 13) (.c (.i .i64 1))),
 .o 15 (.mv (.k 14)),
 .c 15 true 16 (.mv (.t 5)),
 .c 15 true 17 (.mv (.t 1)),
 .c 15 true 18 (.len false (.k 17)),
 .c 15 true 19 (.bin .lss (.k 16) (.k 18)),
 .o 20 (.pick (.k 15) (.k 19) (.c (.b false)))] false [0,1,5,20] [])
 (.cond 20 .skip
 (.exit 0)))
 (.seq (.blk 1 (.seq (.reg [] [.o 23 (.mv (.t 1)),
 .u 24 (.mv (.t 5)) [0] 0,
 .o 25 (.ia 2 none (.k 23) (.k 24)),
 .o 26 (.ld true 2 .cp (.k 25)),
 .u 27 (.mv (.t 1)) [0,1,2,3] 0,
 .u 28 (.mv (.t 5)) [0,1,2,3,4] 0,
 .u 29 (.bin .sub (.k 28) (.c (.i .i64 1))) [0,1,2,3,4] 0,
 .u 30 (.ia 2 none (.k 27) (.k 29)) [0,1,2,3] 0,
 .u 31 (.ld true 2 .cp (.k 30)) [0,1,2,3] 0,
 .o 32 (.call n_pile_Item_Cmp [.k 26,.k 31]),
 .o 33 (.bin .lss (.k 32) (.c (.i .i64 0)))] true [0,1,5,33] [])
 (.cond 33 (.seq (.reg [] [.o 4 (.mv (.c (.i .i64 14)))] false [4] [])
 .ret)
 .skip)))
 (.reg [] [.o 21 (.mv (.k 5)),
 .o 22 (.bin .add (.k 21) (.c (.i .i64 1))),
 .o 5 (.mv (.k 22))] false [0,1,5] []))))))
 (.seq (.reg [] [.o 4 (.mv (.c (.i .i64 0)))] false [4] [])
 .ret))))⟩

def F_octet_Num : F := ⟨2,[.inl 4],
 (.seq (.reg [] [.o 4 (.mv (.c (.l .o 1 [])))] false [0,1] [])
 (.seq (.blk 0 (.loop (.seq (.seq (.reg [] [.o 5 (.mv (.t 1)),
 .o 6 (.bin .geq (.k 5) (.c (.i .u64 128)))] false [0,1,6] [])
 (.cond 6 .skip
 (.exit 0)))
 (.blk 1 (.seq (.reg [] [.o 7 (.mv (.k 0)),
 .o 8 (.mv (.t 1)),
 .o 9 (.cv (.int .u8) (.k 8)),
 .o 10 (.bin .or (.k 9) (.c (.i .u8 128))),
 .o 11 (.bs 1 1 (.i .u8 0) [(0,.k 10)]),
 .z 12 (.app 1 1 (.k 7) (.k 11)) 1,
 .o 0 (.mv (.k 12))] false [0,1] [])
 (.reg [] [.o 13 (.mv (.k 1)),
 .o 14 (.bin .shr (.k 13) (.c (.i .u64 7))),
 .o 1 (.mv (.k 14))] false [0,1] []))))))
 (.seq (.reg [] [.o 15 (.mv (.k 0)),
 .o 16 (.mv (.k 1)),
 .o 17 (.cv (.int .u8) (.k 16)),
 .o 18 (.bs 1 1 (.i .u8 0) [(0,.k 17)]),
 .z 19 (.app 1 1 (.k 15) (.k 18)) 1,
 .o 4 (.mv (.k 19))] false [4] [])
 .ret)))⟩

def F_octet_Long : F := ⟨2,[.inl 4],
 (.seq (.reg [] [.o 4 (.mv (.c (.l .o 1 [])))] false [0,1] [])
 (.seq (.reg [] [.o 5 (.mv (.k 0)),
 .o 6 (.mv (.k 1)),
 .o 7 (.call n_octet_fixed_uint64 [.k 5,.k 6,.c (.i .i64 8)]),
 .o 4 (.mv (.k 7))] false [4] [])
 .ret))⟩

def F_octet_Word : F := ⟨2,[.inl 4],
 (.seq (.reg [] [.o 4 (.mv (.c (.l .o 1 [])))] false [0,1] [])
 (.seq (.reg [] [.o 5 (.mv (.k 0)),
 .o 6 (.mv (.k 1)),
 .o 7 (.call n_octet_fixed_uint32 [.k 5,.k 6,.c (.i .i64 4)]),
 .o 4 (.mv (.k 7))] false [4] [])
 .ret))⟩

def F_crc_Table_Sum : F := ⟨2,[.inl 4],
 (.seq (.reg [.zz 1] [.o 4 (.mv (.c (.i .u32 0)))] false [0,1] [])
 (.seq (.reg [] [.o 5 (.mv (.c (.i .u32 0)))] false [0,1,5] [])
 (.seq (.seq (.reg [] [.o 8 (.mv (.k 1)),
 .o 9 (.len false (.t 8)),
 .o 10 (.mv (.c (.i .i64 0)))] false [0,5,8,9,10] [])
 (.blk 0 (.loop (.seq (.reg [] [.o 11 (.bin .lss (.t 10) (.t 9))] false [0,5,8,9,10,11] [])
 (.seq (.cond 11 .skip
 (.exit 0))
 (.seq (.blk 1 (.seq (.reg [] [.o 12 (.ia 1 none (.t 8) (.t 10)),
 .o 13 (.ld false 1 .cp (.k 12)),
 .o 7 (.mv (.k 13))] false [0,5,7,8,9,10] [])
 (.reg [] [.o 14 (.mv (.t 0)),
 .o 15 (.mv (.k 5)),
 .o 16 (.mv (.k 7)),
 .o 17 (.call n_crc_Table_More [.k 14,.k 15,.k 16]),
 .o 5 (.mv (.k 17))] false [0,5,8,9,10] [])))
 (.reg [] [.o 18 (.bin .add (.k 10) (.c (.i .i64 1))),
 .o 10 (.mv (.k 18))] false [0,5,8,9,10] [])))))))
 (.seq (.reg [] [.o 19 (.mv (.k 5)),
 .o 4 (.mv (.k 19))] false [4] [])
 .ret))))⟩

def F_octet_Int : F := ⟨2,[.inl 4],
 (.seq (.reg [] [.o 4 (.mv (.c (.l .o 1 [])))] false [0,1] [])
 (.seq (.reg [] [.o 5 (.mv (.k 0)),
 .o 6 (.mv (.t 1)),
 .o 7 (.cv (.int .u64) (.k 6)),
 .o 8 (.bin .shl (.k 7) (.c (.i .u64 1))),
 .o 9 (.mv (.k 1)),
 .o 10 (.bin .shr (.k 9) (.c (.i .u64 63))),
 .o 11 (.cv (.int .u64) (.k 10)),
 .o 12 (.bin .xor (.k 8) (.k 11)),
 .o 13 (.call n_octet_Num [.k 5,.k 12]),
 .o 4 (.mv (.k 13))] false [4] [])
 .ret))⟩

def F_section_Of : F := ⟨1,[.inl 2],
 (.seq (.reg [.zz 0] [.o 1 (.bx (.k 0)),
 .o 2 (.mv (.c (.l .o 2 [])))] false [1] [1])
 (.seq (.reg [] [.z 3 (.ld true 5 .cp (.t 1)) 2,
 .o 4 (.call n_section_meta [.k 3]),
 .o 5 (.bd ([.i .i64 0,.s ⟨#[]⟩]) [(0,1,.c (.i .i64 1)),(1,1,.k 4)]),
 .u 6 (.ld true 5 .cp (.t 1)) [0,1,2] 2,
 .u 7 (.call n_section_data [.k 6]) [2] 0,
 .u 8 (.bd ([.i .i64 0,.s ⟨#[]⟩]) [(0,1,.c (.i .i64 2)),(1,1,.k 7)]) [2] 0,
 .z 9 (.bs 2 2 (.a ([.i .i64 0,.s ⟨#[]⟩])) [(0,.k 5),(1,.k 8)]) 1,
 .o 2 (.mv (.k 9))] true [2] [])
 .ret))⟩

def F_pile_New : F := ⟨1,[.inl 2],
 (.seq (.reg [.zz 0] [.o 2 (.mv (.c (.nilp)))] false [0] [])
 (.seq (.reg [] [.o 6 (.bd ([.l .x 2 []]) []),
 .o 7 (.bg (.k 6)),
 .o 3 (.mv (.k 7))] false [0,3] [])
 (.seq (.seq (.reg [] [.o 8 (.mv (.k 0)),
 .o 9 (.len false (.t 8)),
 .o 10 (.mv (.c (.i .i64 0)))] false [3,8,9,10] [])
 (.blk 0 (.loop (.seq (.reg [] [.o 11 (.bin .lss (.t 10) (.t 9))] false [3,8,9,10,11] [])
 (.seq (.cond 11 .skip
 (.exit 0))
 (.seq (.blk 1 (.seq (.reg [] [.o 12 (.ia 2 none (.t 8) (.t 10)),
 .o 13 (.ld true 2 .cp (.k 12)),
 .o 5 (.al ([.f .f64 0,.i .i64 0])),
 .s (.st 2 (.t 5) (.k 13))] false [3,5,8,9,10] [5])
 (.reg [] [.o 14 (.mv (.t 3)),
 .u 15 (.mv (.t 3)) [0] 0,
 .u 16 (.nc (.k 15)) [0] 0,
 .u 17 (.fa 0 (.k 16)) [0] 0,
 .u 18 (.ld false 1 .tk (.k 17)) [0] 0,
 .u 19 (.ld true 2 .cp (.k 5)) [0,1,2,3,4] 0,
 .u 20 (.callp n_pile_Item_Canon [.k 19]) [0,1,2,3,4] 0,
 .u 21 (.bs 2 1 (.a ([.f .f64 0,.i .i64 0])) [(0,.k 20)]) [0,1,2,3,4] 0,
 .u 22 (.app 2 16 (.k 18) (.k 21)) [0] 0,
 .o 23 (.nc (.k 14)),
 .o 24 (.fa 0 (.k 23)),
 .s (.st 1 (.k 24) (.k 22))] true [3,8,9,10] [])))
 (.reg [] [.o 25 (.bin .add (.k 10) (.c (.i .i64 1))),
 .o 10 (.mv (.k 25))] false [3,8,9,10] [])))))))
 (.seq (.reg [] [.o 26 (.mv (.t 3)),
 .o 27 (.nc (.k 26)),
 .o 28 (.fa 0 (.k 27)),
 .o 29 (.mi t_pile_items_u (.k 28)),
 .o 30 (.call n_container_heap_Init [.k 29])] false [3] [])
 (.seq (.reg [] [.o 31 (.mv (.k 3)),
 .o 2 (.mv (.k 31))] false [2] [])
 .ret)))))⟩

def F_pile_Pile_All : F := ⟨1,[.inl 2],
 (.seq (.reg [] [.o 2 (.mv (.c (.l .o 2 [])))] false [0] [])
 (.seq (.reg [] [.o 7 (.bs 2 0 (.a ([.f .f64 0,.i .i64 0])) []),
 .o 8 (.mv (.k 0)),
 .o 9 (.nc (.k 8)),
 .o 10 (.fa 0 (.k 9)),
 .z 11 (.lda 1 (.k 10)) 1,
 .o 12 (.app 2 16 (.k 7) (.k 11)),
 .o 13 (.bd ([.l .x 2 []]) [(0,1,.k 12)]),
 .o 14 (.bg (.k 13)),
 .o 3 (.mv (.k 14))] false [3] [])
 (.seq (.reg [] [.o 4 (.mv (.c (.l .o 2 [])))] false [3,4] [])
 (.blk 0 (.loop (.blk 1 (.seq (.reg [] [.o 16 (.mv (.t 3)),
 .o 17 (.call n_pile_Pile_Take [.k 16]),
 .o 15 (.mv (.k 17)),
 .o 18 (.ex false 0 15),
 .o 19 (.ex false 1 15),
 .o 5 (.al ([.f .f64 0,.i .i64 0])),
 .s (.st 2 (.t 5) (.k 18)),
 .o 6 (.mv (.k 19))] false [3,4,5,6] [5])
 (.seq (.seq (.reg [] [.o 20 (.mv (.k 6)),
 .o 21 (.un .not (.k 20))] false [3,4,5,21] [5])
 (.cond 21 (.seq (.reg [] [.o 22 (.mv (.k 4)),
 .o 2 (.mv (.k 22))] false [2] [])
 .ret)
 .skip))
 (.reg [] [.o 23 (.mv (.k 4)),
 .o 24 (.ld true 2 .cp (.k 5)),
 .o 25 (.bs 2 1 (.a ([.f .f64 0,.i .i64 0])) [(0,.k 24)]),
 .z 26 (.app 2 16 (.k 23) (.k 25)) 1,
 .o 4 (.mv (.k 26))] false [3,4] [])))))))))⟩

def F_real_Cmp : F := ⟨2,[.inl 4],
 (.seq (.reg [] [.o 4 (.mv (.c (.i .i64 0)))] false [0,1] [])
 (.seq (.reg [] [.o 7 (.mv (.k 0)),
 .o 8 (.call n_real_Key [.k 7]),
 .o 9 (.mv (.k 1)),
 .o 10 (.call n_real_Key [.k 9]),
 .o 5 (.mv (.k 8)),
 .o 6 (.mv (.k 10))] false [5,6] [])
 (.seq (.blk 0 (.seq (.reg [] [.o 12 (.mv (.t 5)),
 .o 13 (.mv (.t 6)),
 .o 14 (.bin .lss (.k 12) (.k 13)),
 .o 11 (.mv (.k 14))] false [5,6,11] [])
 (.cond 11 (.seq (.reg [] [.o 4 (.mv (.c (.i .i64 (-1))))] false [4] [])
 .ret)
 (.seq (.reg [] [.o 16 (.mv (.k 5)),
 .o 17 (.mv (.k 6)),
 .o 18 (.bin .gtr (.k 16) (.k 17)),
 .o 15 (.mv (.k 18))] false [15] [])
 (.cond 15 (.seq (.reg [] [.o 4 (.mv (.c (.i .i64 1)))] false [4] [])
 .ret)
 .skip)))))
 (.seq (.reg [] [.o 4 (.mv (.c (.i .i64 0)))] false [4] [])
 .ret))))⟩

def F_octet_Of : F := ⟨1,[.inl 2],
 (.seq (.reg [] [.o 2 (.mv (.c (.nilp)))] false [0] [])
 (.seq (.reg [] [.o 3 (.mv (.k 0)),
 .o 4 (.bd ([.s ⟨#[]⟩,.i .i64 0]) [(0,1,.k 3)]),
 .o 5 (.bg (.k 4)),
 .o 2 (.mv (.k 5))] false [2] [])
 .ret))⟩

def F_octet_In_Bytes : F := ⟨2,[.inl 4],
 (.seq (.reg [] [.o 4 (.mv (.c (.s ⟨#[]⟩)))] false [0,1] [])
 (.seq (.blk 0 (.seq (.reg [] [.o 7 (.mv (.t 0)),
 .o 8 (.nc (.k 7)),
 .o 9 (.fa 1 (.k 8)),
 .o 10 (.ld false 1 .cp (.k 9)),
 .o 11 (.bin .neq (.k 10) (.c (.i .i64 0))),
 .o 12 (.mv (.k 11)),
 .c 12 false 13 (.mv (.t 1)),
 .c 12 false 14 (.bin .leq (.k 13) (.c (.i .i64 0))),
 .o 15 (.pick (.k 12) (.c (.b true)) (.k 14)),
 .o 6 (.mv (.k 15))] false [0,1,6] [])
 (.cond 6 (.seq (.reg [] [.o 4 (.mv (.c (.s ⟨#[]⟩)))] false [4] [])
 .ret)
 (.seq (.reg [] [.o 17 (.mv (.t 1)),
 .o 18 (.mv (.t 0)),
 .o 19 (.nc (.k 18)),
 .o 20 (.fa 0 (.k 19)),
 .o 21 (.ld false 1 .cp (.k 20)),
 .o 22 (.len true (.k 21)),
 .o 23 (.bin .gtr (.k 17) (.k 22)),
 .o 16 (.mv (.k 23))] false [0,1,16] [])
 (.cond 16 (.seq (.reg [] [.o 24 (.mv (.k 0)),
 .o 25 (.call n_octet_In_fail [.k 24,.c (.i .i64 1)])] false [] [])
 (.seq (.reg [] [.o 4 (.mv (.c (.s ⟨#[]⟩)))] false [4] [])
 .ret))
 .skip)))))
 (.seq (.reg [] [.o 26 (.mv (.t 0)),
 .o 27 (.nc (.k 26)),
 .o 28 (.fa 0 (.k 27)),
 .o 29 (.ld false 1 .cp (.k 28)),
 .o 30 (.mv (.t 1)),
 .o 31 (.ss (.k 29) none (some (.k 30))),
 .o 5 (.mv (.k 31))] false [0,1,5] [])
 (.seq (.reg [] [.o 32 (.mv (.t 0)),
 .o 33 (.mv (.k 0)),
 .o 34 (.nc (.k 33)),
 .o 35 (.fa 0 (.k 34)),
 .o 36 (.ld false 1 .cp (.k 35)),
 .o 37 (.mv (.k 1)),
 .o 38 (.ss (.k 36) (some (.k 37)) none),
 .o 39 (.nc (.k 32)),
 .o 40 (.fa 0 (.k 39)),
 .s (.st 1 (.k 40) (.k 38))] false [5] [])
 (.seq (.reg [] [.o 41 (.mv (.k 5)),
 .o 4 (.mv (.k 41))] false [4] [])
 .ret)))))⟩

def F_octet_In_Byte : F := ⟨1,[.inl 2],
 (.seq (.reg [] [.o 2 (.mv (.c (.i .u8 0)))] false [0] [])
 (.seq (.reg [] [.o 4 (.mv (.k 0)),
 .o 5 (.call n_octet_In_Bytes [.k 4,.c (.i .i64 1)]),
 .o 3 (.mv (.k 5))] false [3] [])
 (.seq (.seq (.reg [] [.o 6 (.mv (.t 3)),
 .o 7 (.bin .eql (.k 6) (.c (.s ⟨#[]⟩)))] false [3,7] [])
 (.cond 7 (.seq (.reg [] [.o 2 (.mv (.c (.i .u8 0)))] false [2] [])
 .ret)
 .skip))
 (.seq (.reg [] [.o 8 (.mv (.k 3)),
 .o 9 (.ixs (.k 8) (.c (.i .i64 0))),
 .o 2 (.mv (.k 9))] false [2] [])
 .ret))))⟩

def F_octet_In_Word : F := ⟨1,[.inl 2],
 (.seq (.reg [] [.o 2 (.mv (.c (.i .u32 0)))] false [0] [])
 (.seq (.reg [] [.o 3 (.mv (.c (.i .u32 0)))] false [0,3] [])
 (.seq (.seq (.reg [] [.o 6 (.mv (.k 0)),
 .o 7 (.call n_octet_In_Bytes [.k 6,.c (.i .i64 4)]),
 .z 8 (.cv .bytes (.k 7)) 1,
 .o 9 (.len false (.t 8)),
 .o 10 (.mv (.c (.i .i64 0)))] false [3,8,9,10] [])
 (.blk 0 (.loop (.seq (.reg [] [.o 11 (.bin .lss (.t 10) (.t 9))] false [3,8,9,10,11] [])
 (.seq (.cond 11 .skip
 (.exit 0))
 (.seq (.blk 1 (.seq (.reg [] [.o 12 (.mv (.t 10)),
 .o 13 (.ia 1 none (.t 8) (.t 10)),
 .o 14 (.ld false 1 .cp (.k 13)),
 .o 4 (.mv (.k 12)),
 .o 5 (.mv (.k 14))] false [3,4,5,8,9,10] [])
 (.reg [] [.o 15 (.mv (.k 3)),
 .o 16 (.mv (.k 5)),
 .o 17 (.cv (.int .u32) (.k 16)),
 .o 18 (.mv (.k 4)),
 .o 19 (.bin .mul (.c (.i .i64 8)) (.k 18)),
 .o 20 (.bin .shl (.k 17) (.k 19)),
 .o 21 (.bin .or (.k 15) (.k 20)),
 .o 3 (.mv (.k 21))] false [3,8,9,10] [])))
 (.reg [] [.o 22 (.bin .add (.k 10) (.c (.i .i64 1))),
 .o 10 (.mv (.k 22))] false [3,8,9,10] [])))))))
 (.seq (.reg [] [.o 23 (.mv (.k 3)),
 .o 2 (.mv (.k 23))] false [2] [])
 .ret))))⟩

def F_octet_In_Err : F := ⟨1,[.inl 2],
 (.seq (.reg [] [.o 2 (.mv (.c (.i .i64 0)))] false [0] [])
 (.seq (.reg [] [.o 3 (.mv (.k 0)),
 .o 4 (.nc (.k 3)),
 .o 5 (.fa 1 (.k 4)),
 .o 6 (.ld false 1 .cp (.k 5)),
 .o 2 (.mv (.k 6))] false [2] [])
 .ret))⟩

def F_octet_In_Num : F := ⟨2,[.inl 4],
 (.seq (.reg [] [.o 4 (.mv (.c (.i .u64 0)))] false [0,1] [])
 (.seq (.reg [] [.o 5 (.mv (.c (.i .u64 0))),
 .o 6 (.mv (.c (.i .i64 0)))] false [0,1,5,6] [])
 (.seq (.seq (.reg [] [.o 7 (.mv (.c (.i .i64 0)))] false [0,1,5,6,7] [])
 (.blk 0 (.loop (.seq (.blk 1 (.seq (.reg [] [.o 11 (.mv (.t 0)),
 .o 12 (.call n_octet_In_Byte [.k 11]),
 .o 8 (.mv (.k 12))] false [0,1,5,6,7,8] [])
 (.seq (.seq (.reg [] [.o 13 (.mv (.t 0)),
 .o 14 (.nc (.k 13)),
 .o 15 (.fa 1 (.k 14)),
 .o 16 (.ld false 1 .cp (.k 15)),
 .o 17 (.bin .neq (.k 16) (.c (.i .i64 0)))] false [0,1,5,6,7,8,17] [])
 (.cond 17 (.seq (.reg [] [.o 4 (.mv (.c (.i .u64 0)))] false [4] [])
 .ret)
 .skip))
 (.seq (.reg [] [.o 18 (.mv (.k 5)),
 .o 19 (.mv (.t 8)),
 .o 20 (.bin .and (.k 19) (.c (.i .u8 127))),
 .o 21 (.cv (.int .u64) (.k 20)),
 .o 22 (.mv (.t 7)),
 .o 23 (.bin .mul (.c (.i .i64 7)) (.k 22)),
 .o 24 (.bin .shl (.k 21) (.k 23)),
 .o 25 (.bin .or (.k 18) (.k 24)),
 .o 5 (.mv (.k 25))] false [0,1,5,6,7,8] [])
 (.seq (.seq (.reg [] [.o 26 (.mv (.t 7)),
 .o 27 (.bin .eql (.k 26) (.c (.i .i64 9))),
 .o 28 (.mv (.k 27)),
 .c 28 true 29 (.mv (.t 8)),
 .c 28 true 30 (.bin .gtr (.k 29) (.c (.i .u8 1))),
 .o 31 (.pick (.k 28) (.k 30) (.c (.b false)))] false [0,1,5,6,7,8,31] [])
 (.cond 31 (.seq (.reg [] [.o 6 (.mv (.c (.i .i64 2)))] false [0,1,5,6] [])
 (.exit 0))
 .skip))
 (.seq (.reg [] [.o 32 (.mv (.t 8)),
 .o 33 (.bin .lss (.k 32) (.c (.i .u8 128)))] false [0,1,5,6,7,8,33] [])
 (.cond 33 (.seq (.seq (.reg [] [.o 34 (.mv (.k 8)),
 .o 35 (.bin .eql (.k 34) (.c (.i .u8 0))),
 .o 36 (.mv (.k 35)),
 .c 36 true 37 (.mv (.k 7)),
 .c 36 true 38 (.bin .gtr (.k 37) (.c (.i .i64 0))),
 .o 39 (.pick (.k 36) (.k 38) (.c (.b false)))] false [0,1,5,6,39] [])
 (.cond 39 (.reg [] [.o 6 (.mv (.c (.i .i64 2)))] false [0,1,5,6] [])
 .skip))
 (.exit 0))
 .skip)))))))
 (.reg [] [.o 9 (.mv (.k 7)),
 .o 10 (.bin .add (.k 9) (.c (.i .i64 1))),
 .o 7 (.mv (.k 10))] false [0,1,5,6,7] [])))))
 (.seq (.seq (.reg [] [.o 40 (.mv (.t 6)),
 .o 41 (.bin .eql (.k 40) (.c (.i .i64 0))),
 .o 42 (.mv (.k 41)),
 .c 42 true 43 (.mv (.t 5)),
 .c 42 true 44 (.mv (.k 1)),
 .c 42 true 45 (.bin .gtr (.k 43) (.k 44)),
 .o 46 (.pick (.k 42) (.k 45) (.c (.b false)))] false [0,5,6,46] [])
 (.cond 46 (.reg [] [.o 6 (.mv (.c (.i .i64 3)))] false [0,5,6] [])
 .skip))
 (.seq (.seq (.reg [] [.o 47 (.mv (.t 6)),
 .o 48 (.bin .neq (.k 47) (.c (.i .i64 0)))] false [0,5,6,48] [])
 (.cond 48 (.seq (.reg [] [.o 49 (.mv (.k 0)),
 .o 50 (.mv (.k 6)),
 .o 51 (.call n_octet_In_fail [.k 49,.k 50])] false [] [])
 (.seq (.reg [] [.o 4 (.mv (.c (.i .u64 0)))] false [4] [])
 .ret))
 .skip))
 (.seq (.reg [] [.o 52 (.mv (.k 5)),
 .o 4 (.mv (.k 52))] false [4] [])
 .ret))))))⟩

def F_octet_In_End : F := ⟨1,[.inl 2],
 (.seq (.reg [] [.o 2 (.mv (.c (.i .i64 0)))] false [0] [])
 (.seq (.seq (.reg [] [.o 3 (.mv (.t 0)),
 .o 4 (.nc (.k 3)),
 .o 5 (.fa 1 (.k 4)),
 .o 6 (.ld false 1 .cp (.k 5)),
 .o 7 (.bin .eql (.k 6) (.c (.i .i64 0))),
 .o 8 (.mv (.k 7)),
 .c 8 true 9 (.mv (.t 0)),
 .c 8 true 10 (.nc (.k 9)),
 .c 8 true 11 (.fa 0 (.k 10)),
 .c 8 true 12 (.ld false 1 .cp (.k 11)),
 .c 8 true 13 (.len true (.k 12)),
 .c 8 true 14 (.bin .gtr (.k 13) (.c (.i .i64 0))),
 .o 15 (.pick (.k 8) (.k 14) (.c (.b false)))] false [0,15] [])
 (.cond 15 (.reg [] [.o 16 (.mv (.t 0)),
 .o 17 (.call n_octet_In_fail [.k 16,.c (.i .i64 2)])] false [0] [])
 .skip))
 (.seq (.reg [] [.o 18 (.mv (.k 0)),
 .o 19 (.nc (.k 18)),
 .o 20 (.fa 1 (.k 19)),
 .o 21 (.ld false 1 .cp (.k 20)),
 .o 2 (.mv (.k 21))] false [2] [])
 .ret)))⟩

def F_section_read : F := ⟨3,[.inl 6,.inl 7,.inl 8],
 (.seq (.reg [] [.o 6 (.mv (.c (.l .o 1 []))),
 .o 7 (.mv (.c (.l .o 1 []))),
 .o 8 (.mv (.c (.i .i64 0)))] false [0,1,2] [])
 (.seq (.reg [] [.o 16 (.mv (.k 0)),
 .o 17 (.mv (.k 1)),
 .o 18 (.call n_image_Shape [.k 16,.k 17]),
 .o 15 (.mv (.k 18)),
 .o 19 (.ex false 0 15),
 .o 20 (.ex false 1 15),
 .o 9 (.mv (.k 19)),
 .o 10 (.mv (.k 20))] false [2,9,10] [])
 (.seq (.reg [] [.o 11 (.mv (.c (.l .o 1 [])))] false [2,9,10,11] [])
 (.seq (.reg [] [.o 12 (.mv (.c (.l .o 1 [])))] false [2,9,10,11,12] [])
 (.seq (.seq (.reg [] [.o 21 (.mv (.k 9)),
 .o 22 (.mv (.c (.i .i64 0)))] false [2,10,11,12,21,22] [])
 (.blk 0 (.loop (.seq (.reg [] [.o 23 (.bin .lss (.t 22) (.t 21))] false [2,10,11,12,21,22,23] [])
 (.seq (.cond 23 .skip
 (.exit 0))
 (.seq (.blk 1 (.seq (.reg [] [.o 25 (.mv (.t 2)),
 .o 26 (.call n_section_take [.k 25]),
 .o 24 (.mv (.k 26)),
 .o 27 (.ex true 0 24),
 .o 28 (.ex false 1 24),
 .o 13 (.mv (.k 27)),
 .o 14 (.mv (.k 28))] false [2,10,11,12,13,14,21,22] [])
 (.seq (.seq (.reg [] [.o 29 (.mv (.t 14)),
 .o 30 (.bin .neq (.k 29) (.c (.i .i64 0)))] false [2,10,11,12,13,14,21,22,30] [])
 (.cond 30 (.seq (.reg [] [.o 31 (.mv (.k 14)),
 .o 6 (.mv (.c (.l .o 1 []))),
 .o 7 (.mv (.c (.l .o 1 []))),
 .o 8 (.mv (.k 31))] false [6,7,8] [])
 .ret)
 .skip))
 (.reg [] [.o 32 (.mv (.k 11)),
 .o 33 (.mv (.k 13)),
 .o 34 (.bs 1 1 (.l .o 2 []) [(0,.k 33)]),
 .z 35 (.app 1 24 (.k 32) (.k 34)) 1,
 .o 11 (.mv (.k 35))] false [2,10,11,12,21,22] []))))
 (.reg [] [.o 36 (.bin .add (.k 22) (.c (.i .i64 1))),
 .o 22 (.mv (.k 36))] false [2,10,11,12,21,22] [])))))))
 (.seq (.seq (.reg [] [.o 37 (.mv (.k 10)),
 .o 38 (.mv (.c (.i .i64 0)))] false [2,11,12,37,38] [])
 (.blk 2 (.loop (.seq (.reg [] [.o 39 (.bin .lss (.t 38) (.t 37))] false [2,11,12,37,38,39] [])
 (.seq (.cond 39 .skip
 (.exit 2))
 (.seq (.blk 3 (.reg [] [.o 40 (.mv (.k 12)),
 .o 41 (.mv (.t 2)),
 .o 42 (.call n_octet_In_Num [.k 41,.c (.i .u64 1125899906842624)]),
 .o 43 (.cv (.int .i64) (.k 42)),
 .o 44 (.bs 1 1 (.i .i64 0) [(0,.k 43)]),
 .z 45 (.app 1 8 (.k 40) (.k 44)) 1,
 .o 12 (.mv (.k 45))] false [2,11,12,37,38] []))
 (.reg [] [.o 46 (.bin .add (.k 38) (.c (.i .i64 1))),
 .o 38 (.mv (.k 46))] false [2,11,12,37,38] [])))))))
 (.seq (.reg [] [.o 47 (.mv (.k 11)),
 .o 48 (.mv (.k 12)),
 .o 49 (.mv (.k 2)),
 .o 50 (.call n_octet_In_End [.k 49]),
 .o 6 (.mv (.k 47)),
 .o 7 (.mv (.k 48)),
 .o 8 (.mv (.k 50))] false [6,7,8] [])
 .ret)))))))⟩

def F_internal_stringslite_HasPrefix : F := ⟨2,[.inl 4],
 (.seq (.reg [] [.o 4 (.mv (.c (.b false)))] false [0,1] [])
 (.seq (.reg [] [.o 5 (.mv (.t 0)),
 .o 6 (.len true (.k 5)),
 .o 7 (.mv (.t 1)),
 .o 8 (.len true (.k 7)),
 .o 9 (.bin .geq (.k 6) (.k 8)),
 .o 10 (.mv (.k 9)),
 .c 10 true 11 (.mv (.k 0)),
 .c 10 true 12 (.mv (.t 1)),
 .c 10 true 13 (.len true (.k 12)),
 .c 10 true 14 (.ss (.k 11) none (some (.k 13))),
 .c 10 true 15 (.mv (.k 1)),
 .c 10 true 16 (.bin .eql (.k 14) (.k 15)),
 .o 17 (.pick (.k 10) (.k 16) (.c (.b false))),
 .o 4 (.mv (.k 17))] false [4] [])
 .ret))⟩

def F_c_ref04_Cmp : F := ⟨2,[.inl 4],
 (.seq (.reg [] [.o 2 (.bx (.k 0)),
 .o 3 (.bx (.k 1)),
 .o 4 (.mv (.c (.i .i64 0)))] false [2,3] [2,3])
 (.seq (.reg [] [.o 6 (.fa 0 (.t 2)),
 .o 7 (.ld false 1 .cp (.k 6)),
 .o 8 (.fa 0 (.t 3)),
 .o 9 (.ld false 1 .cp (.k 8)),
 .o 10 (.call n_c_ref03_Cmp [.k 7,.k 9]),
 .o 5 (.mv (.k 10))] false [2,3,5] [2,3])
 (.seq (.seq (.reg [] [.o 11 (.mv (.t 5)),
 .o 12 (.bin .eql (.k 11) (.c (.i .i64 0))),
 .o 13 (.mv (.k 12)),
 .c 13 true 14 (.fa 1 (.t 2)),
 .c 13 true 15 (.ld false 1 .cp (.k 14)),
 .c 13 true 16 (.fa 1 (.t 3)),
 .c 13 true 17 (.ld false 1 .cp (.k 16)),
 .c 13 true 18 (.bin .lss (.k 15) (.k 17)),
 .o 19 (.pick (.k 13) (.k 18) (.c (.b false)))] false [2,3,5,19] [2,3])
 (.cond 19 (.reg [] [.o 5 (.mv (.c (.i .i64 (-1))))] false [2,3,5] [2,3])
 .skip))
 (.seq (.seq (.reg [] [.o 20 (.mv (.t 5)),
 .o 21 (.bin .eql (.k 20) (.c (.i .i64 0))),
 .o 22 (.mv (.k 21)),
 .c 22 true 23 (.fa 1 (.k 2)),
 .c 22 true 24 (.ld false 1 .cp (.k 23)),
 .c 22 true 25 (.fa 1 (.k 3)),
 .c 22 true 26 (.ld false 1 .cp (.k 25)),
 .c 22 true 27 (.bin .gtr (.k 24) (.k 26)),
 .o 28 (.pick (.k 22) (.k 27) (.c (.b false)))] false [5,28] [])
 (.cond 28 (.reg [] [.o 5 (.mv (.c (.i .i64 1)))] false [5] [])
 .skip))
 (.seq (.reg [] [.o 29 (.mv (.k 5)),
 .o 4 (.mv (.k 29))] false [4] [])
 .ret)))))⟩

def F_c_ref03_Key : F := ⟨1,[.inl 2],
 (.seq (.reg [] [.o 2 (.mv (.c (.i .u64 0)))] false [0] [])
 (.seq (.reg [] [.o 3 (.mv (.k 0)),
 .o 4 (.call n_c_ref03_Bits [.k 3]),
 .o 0 (.mv (.k 4))] false [0] [])
 (.seq (.seq (.reg [] [.o 5 (.mv (.t 0)),
 .o 6 (.bin .geq (.k 5) (.c (.i .u64 9223372036854775808)))] false [0,6] [])
 (.cond 6 (.seq (.reg [] [.o 7 (.mv (.k 0)),
 .o 8 (.bin .sub (.c (.i .u64 18446744073709551615)) (.k 7)),
 .o 2 (.mv (.k 8))] false [2] [])
 .ret)
 .skip))
 (.seq (.reg [] [.o 9 (.mv (.k 0)),
 .o 10 (.bin .add (.k 9) (.c (.i .u64 9223372036854775808))),
 .o 2 (.mv (.k 10))] false [2] [])
 .ret))))⟩

def F_op_Of : F := ⟨1,[.inl 2],
 (.seq (.reg [] [.o 2 (.mv (.c (.l .o 1 [])))] false [0] [])
 (.seq (.seq (.reg [] [.o 3 (.mv (.k 0))] false [3] [])
 (.blk 0 (.seq (.reg [] [.o 5 (.bin .eql (.t 3) (.c (.i .i64 1))),
 .o 4 (.mv (.k 5))] false [3,4] [])
 (.cond 4 (.seq (.reg [] [.z 6 (.bs 1 2 (.i .i64 0) [(0,.c (.i .i64 1)),(1,.c (.i .i64 2))]) 1,
 .o 2 (.mv (.k 6))] false [2] [])
 .ret)
 (.seq (.reg [] [.o 8 (.bin .eql (.t 3) (.c (.i .i64 2))),
 .o 7 (.mv (.k 8))] false [3,7] [])
 (.cond 7 (.seq (.reg [] [.z 9 (.bs 1 2 (.i .i64 0) [(0,.c (.i .i64 3)),(1,.c (.i .i64 4))]) 1,
 .o 2 (.mv (.k 9))] false [2] [])
 .ret)
 (.seq (.reg [] [.o 11 (.bin .eql (.t 3) (.c (.i .i64 3))),
 .o 10 (.mv (.k 11))] false [3,10] [])
 (.cond 10 (.seq (.reg [] [.z 12 (.bs 1 2 (.i .i64 0) [(0,.c (.i .i64 5)),(1,.c (.i .i64 6))]) 1,
 .o 2 (.mv (.k 12))] false [2] [])
 .ret)
 (.seq (.reg [] [.o 14 (.bin .eql (.k 3) (.c (.i .i64 4))),
 .o 13 (.mv (.k 14))] false [13] [])
 (.cond 13 (.seq (.reg [] [.z 15 (.bs 1 1 (.i .i64 0) [(0,.c (.i .i64 7))]) 1,
 .o 2 (.mv (.k 15))] false [2] [])
 .ret)
 .skip))))))))))
 (.seq (.reg [] [.o 2 (.mv (.c (.l .o 1 [])))] false [2] [])
 .ret)))⟩

def F_elder_third : F := ⟨2,[.inr (4,true,5),.inl 5],
 (.seq (.reg [] [.o 4 (.al ([.i .i64 0,.i .i64 0,.i .u64 0,.l .o 1 [],.l .o 1 []])),
 .o 5 (.mv (.c (.i .i64 0)))] false [0,1,4] [4])
 (.seq (.reg [] [.o 14 (.mv (.t 1)),
 .o 15 (.call n_octet_In_Byte [.k 14]),
 .o 6 (.mv (.k 15))] false [0,1,4,6] [4])
 (.seq (.seq (.reg [] [.o 16 (.mv (.t 1)),
 .o 17 (.call n_octet_In_Err [.k 16]),
 .o 18 (.bin .eql (.k 17) (.c (.i .i64 0))),
 .o 19 (.mv (.k 18)),
 .c 19 true 20 (.mv (.t 6)),
 .c 19 true 21 (.bin .neq (.k 20) (.c (.i .u8 2))),
 .o 22 (.pick (.k 19) (.k 21) (.c (.b false)))] false [0,1,4,6,22] [4])
 (.cond 22 (.seq (.reg [] [.o 23 (.bd ([.i .i64 0,.i .i64 0,.i .u64 0,.l .o 1 [],.l .o 1 []]) []),
 .s (.st 5 (.t 4) (.k 23)),
 .o 5 (.mv (.c (.i .i64 2)))] false [4,5] [4])
 .ret)
 .skip))
 (.seq (.reg [] [.o 7 (.mv (.c (.l .x 2 [])))] false [0,1,4,6,7] [4,7])
 (.seq (.reg [] [.o 8 (.mv (.c (.l .o 1 [])))] false [0,1,4,6,7,8] [4,7])
 (.seq (.seq (.reg [] [.o 24 (.mv (.k 6)),
 .o 25 (.cv (.int .i64) (.k 24)),
 .o 26 (.mv (.c (.i .i64 0)))] false [0,1,4,7,8,25,26] [4,7])
 (.blk 0 (.loop (.seq (.reg [] [.o 27 (.bin .lss (.t 26) (.t 25))] false [0,1,4,7,8,25,26,27] [4,7])
 (.seq (.cond 27 .skip
 (.exit 0))
 (.seq (.blk 1 (.seq (.reg [] [.o 28 (.mv (.t 26)),
 .o 9 (.mv (.k 28))] false [0,1,4,7,8,9,25,26] [4,7])
 (.seq (.reg [] [.o 29 (.mv (.t 1)),
 .o 30 (.call n_octet_In_Byte [.k 29]),
 .o 31 (.cv (.int .i64) (.k 30)),
 .o 32 (.mv (.t 1)),
 .o 33 (.call n_octet_In_Word [.k 32]),
 .o 34 (.cv (.int .i64) (.k 33)),
 .o 10 (.mv (.k 31)),
 .o 11 (.mv (.k 34))] false [0,1,4,7,8,9,10,11,25,26] [4,7])
 (.seq (.seq (.reg [] [.o 35 (.mv (.t 1)),
 .o 36 (.call n_octet_In_Err [.k 35]),
 .o 37 (.bin .eql (.k 36) (.c (.i .i64 0))),
 .o 38 (.mv (.k 37)),
 .c 38 true 39 (.mv (.t 10)),
 .c 38 true 40 (.mv (.k 9)),
 .c 38 true 41 (.bin .add (.k 40) (.c (.i .i64 1))),
 .c 38 true 42 (.bin .neq (.k 39) (.k 41)),
 .o 43 (.pick (.k 38) (.k 42) (.c (.b false)))] false [0,1,4,7,8,10,11,25,26,43] [4,7])
 (.cond 43 (.seq (.reg [] [.o 44 (.bd ([.i .i64 0,.i .i64 0,.i .u64 0,.l .o 1 [],.l .o 1 []]) []),
 .s (.st 5 (.t 4) (.k 44)),
 .o 5 (.mv (.c (.i .i64 2)))] false [4,5] [4])
 .ret)
 .skip))
 (.reg [.unth 7] [.o 45 (.mv (.k 7)),
 .o 46 (.mv (.k 10)),
 .o 47 (.bd ([.i .i64 0,.s ⟨#[]⟩]) [(0,1,.k 46)]),
 .o 48 (.bs 2 1 (.a ([.i .i64 0,.s ⟨#[]⟩])) [(0,.k 47)]),
 .o 49 (.app 2 24 (.k 45) (.k 48)),
 .o 50 (.mv (.k 8)),
 .o 51 (.mv (.k 11)),
 .o 52 (.bs 1 1 (.i .i64 0) [(0,.k 51)]),
 .z 53 (.app 1 8 (.k 50) (.k 52)) 1,
 .o 7 (.mv (.k 49)),
 .o 8 (.mv (.k 53))] false [0,1,4,7,8,25,26] [4,7])))))
 (.reg [] [.o 54 (.bin .add (.k 26) (.c (.i .i64 1))),
 .o 26 (.mv (.k 54))] false [0,1,4,7,8,25,26] [4,7])))))))
 (.seq (.seq (.reg [.thaw 7] [.o 55 (.mv (.t 7)),
 .o 56 (.len false (.k 55)),
 .o 57 (.mv (.c (.i .i64 0)))] false [0,1,4,7,8,56,57] [4,7])
 (.blk 2 (.loop (.seq (.reg [] [.o 58 (.bin .lss (.t 57) (.t 56))] false [0,1,4,7,8,56,57,58] [4,7])
 (.seq (.cond 58 .skip
 (.exit 2))
 (.seq (.blk 3 (.seq (.reg [] [.o 59 (.mv (.t 57)),
 .o 12 (.mv (.k 59))] false [0,1,4,7,8,12,56,57] [4,7])
 (.reg [.thaw 7] [.o 60 (.mv (.t 7)),
 .o 61 (.mv (.t 12)),
 .o 62 (.mv (.t 1)),
 .o 63 (.mv (.t 8)),
 .o 64 (.mv (.k 12)),
 .o 65 (.ia 1 none (.k 63) (.k 64)),
 .o 66 (.ld false 1 .cp (.k 65)),
 .o 67 (.call n_octet_In_Bytes [.k 62,.k 66]),
 .o 68 (.ia 2 none (.k 60) (.k 61)),
 .o 69 (.fa 1 (.k 68)),
 .s (.st 1 (.k 69) (.k 67))] false [0,1,4,7,8,56,57] [4,7])))
 (.reg [] [.o 70 (.bin .add (.k 57) (.c (.i .i64 1))),
 .o 57 (.mv (.k 70))] false [0,1,4,7,8,56,57] [4,7])))))))
 (.seq (.seq (.reg [] [.o 71 (.mv (.k 1)),
 .o 72 (.call n_octet_In_End [.k 71]),
 .o 13 (.mv (.k 72))] false [0,4,7,13] [4,7])
 (.seq (.reg [] [.o 73 (.mv (.t 13)),
 .o 74 (.bin .neq (.k 73) (.c (.i .i64 0)))] false [0,4,7,13,74] [4,7])
 (.cond 74 (.seq (.reg [] [.o 75 (.bd ([.i .i64 0,.i .i64 0,.i .u64 0,.l .o 1 [],.l .o 1 []]) []),
 .o 76 (.mv (.k 13)),
 .s (.st 5 (.t 4) (.k 75)),
 .o 5 (.mv (.k 76))] false [4,5] [4])
 .ret)
 .skip)))
 (.seq (.reg [.unth 7] [.o 77 (.mv (.k 0)),
 .z 78 (.mv (.k 7)) 2,
 .o 79 (.call n_section_Read [.k 77,.k 78]),
 .o 80 (.ex false 0 79),
 .o 81 (.ex false 1 79),
 .s (.st 5 (.t 4) (.k 80)),
 .o 5 (.mv (.k 81))] false [4,5] [4])
 .ret)))))))))⟩

def F_elder_first : F := ⟨2,[.inr (4,true,5),.inl 5],
 (.seq (.reg [.zz 0] [.o 2 (.bx (.k 0)),
 .o 4 (.al ([.i .i64 0,.i .i64 0,.i .u64 0,.l .o 1 [],.l .o 1 []])),
 .o 5 (.mv (.c (.i .i64 0)))] false [1,2,4] [2,4])
 (.seq (.seq (.reg [] [.o 10 (.fa 0 (.t 2)),
 .o 11 (.ld false 1 .cp (.k 10)),
 .o 12 (.bin .eql (.k 11) (.c (.i .i64 1))),
 .o 13 (.mv (.k 12)),
 .c 13 false 14 (.fa 0 (.t 2)),
 .c 13 false 15 (.ld false 1 .cp (.k 14)),
 .c 13 false 16 (.bin .eql (.k 15) (.c (.i .i64 2))),
 .o 17 (.pick (.k 13) (.c (.b true)) (.k 16))] false [1,2,4,17] [2,4])
 (.cond 17 (.seq (.reg [] [.o 19 (.mv (.k 1)),
 .o 20 (.call n_elder_flat [.k 19]),
 .o 18 (.mv (.k 20)),
 .o 21 (.ex true 0 18),
 .o 22 (.ex false 1 18),
 .o 6 (.mv (.k 21)),
 .o 7 (.mv (.k 22))] false [2,4,6,7] [2,4])
 (.seq (.blk 0 (.seq (.reg [] [.o 30 (.mv (.t 7)),
 .o 31 (.bin .neq (.k 30) (.c (.i .i64 0))),
 .o 29 (.mv (.k 31))] false [2,4,6,7,29] [2,4])
 (.cond 29 (.seq (.reg [] [.o 32 (.ld true 5 .tk (.k 2)),
 .o 33 (.mv (.k 7)),
 .s (.st 5 (.t 4) (.k 32)),
 .o 5 (.mv (.k 33))] false [4,5] [4])
 .ret)
 (.seq (.reg [] [.o 35 (.fa 0 (.t 2)),
 .o 36 (.ld false 1 .cp (.k 35)),
 .o 37 (.bin .eql (.k 36) (.c (.i .i64 2))),
 .o 34 (.mv (.k 37))] false [2,4,6,34] [2,4])
 (.cond 34 (.reg [] [.o 38 (.mv (.k 6)),
 .z 39 (.bs 1 1 (.l .o 2 []) [(0,.k 38)]) 1,
 .o 40 (.fa 3 (.t 2)),
 .s (.st 1 (.k 40) (.k 39))] false [2,4] [2,4])
 (.seq (.reg [] [.o 42 (.mv (.t 6)),
 .o 43 (.len false (.k 42)),
 .o 44 (.fa 1 (.t 2)),
 .o 45 (.ld false 1 .cp (.k 44)),
 .o 46 (.bin .mul (.k 45) (.c (.i .i64 62))),
 .o 47 (.bin .gtr (.k 43) (.k 46)),
 .o 41 (.mv (.k 47))] false [2,4,6,41] [2,4])
 (.cond 41 (.seq (.reg [] [.o 48 (.ld true 5 .tk (.k 2)),
 .s (.st 5 (.t 4) (.k 48)),
 .o 5 (.mv (.c (.i .i64 3)))] false [4,5] [4])
 .ret)
 (.reg [] [.z 23 (.mv (.k 6)) 2,
 .z 24 (.call n_pile_Sorted [.k 23]) 2,
 .u 25 (.fa 1 (.t 2)) [0,1] 0,
 .u 26 (.ld false 1 .cp (.k 25)) [0,1] 0,
 .z 27 (.call n_spread_Deal [.k 24,.k 26]) 1,
 .o 28 (.fa 3 (.t 2)),
 .s (.st 1 (.k 28) (.k 27))] true [2,4] [2,4]))))))))
 (.seq (.reg [] [.o 49 (.ld true 5 .tk (.k 2)),
 .s (.st 5 (.t 4) (.k 49)),
 .o 5 (.mv (.c (.i .i64 0)))] false [4,5] [4])
 .ret)))
 .skip))
 (.seq (.reg [] [.o 51 (.mv (.k 1)),
 .o 52 (.call n_elder_total [.k 51]),
 .o 50 (.mv (.k 52)),
 .o 53 (.ex false 0 50),
 .o 54 (.ex false 1 50),
 .o 8 (.mv (.k 53)),
 .o 9 (.mv (.k 54))] false [2,4,8,9] [2,4])
 (.seq (.reg [] [.o 55 (.mv (.t 8)),
 .z 56 (.bs 1 1 (.i .i64 0) [(0,.k 55)]) 1,
 .o 57 (.fa 4 (.t 2)),
 .s (.st 1 (.k 57) (.k 56))] false [2,4,8,9] [2,4])
 (.seq (.seq (.reg [] [.o 58 (.fa 0 (.t 2)),
 .o 59 (.ld false 1 .cp (.k 58)),
 .o 60 (.bin .eql (.k 59) (.c (.i .i64 3)))] false [2,4,8,9,60] [2,4])
 (.cond 60 (.reg [] [.o 61 (.mv (.k 8)),
 .o 62 (.fa 1 (.t 2)),
 .o 63 (.ld false 1 .cp (.k 62)),
 .z 64 (.call n_wire_Even [.k 61,.k 63]) 1,
 .o 65 (.fa 4 (.t 2)),
 .s (.st 1 (.k 65) (.k 64))] false [2,4,9] [2,4])
 .skip))
 (.seq (.reg [] [.o 66 (.ld true 5 .tk (.k 2)),
 .o 67 (.mv (.k 9)),
 .s (.st 5 (.t 4) (.k 66)),
 .o 5 (.mv (.k 67))] false [4,5] [4])
 .ret))))))⟩

def F_elder_second : F := ⟨2,[.inr (4,true,5),.inl 5],
 (.seq (.reg [] [.o 2 (.bx (.k 0)),
 .o 4 (.al ([.i .i64 0,.i .i64 0,.i .u64 0,.l .o 1 [],.l .o 1 []])),
 .o 5 (.mv (.c (.i .i64 0)))] false [1,2,4] [2,4])
 (.seq (.reg [] [.o 12 (.fa 0 (.t 2)),
 .o 13 (.ld false 1 .cp (.k 12)),
 .o 14 (.fa 1 (.t 2)),
 .o 15 (.ld false 1 .cp (.k 14)),
 .o 16 (.call n_image_Shape [.k 13,.k 15]),
 .o 11 (.mv (.k 16)),
 .o 17 (.ex false 0 11),
 .o 18 (.ex false 1 11),
 .o 6 (.mv (.k 17)),
 .o 7 (.mv (.k 18))] false [1,2,4,6,7] [2,4])
 (.seq (.reg [] [.o 8 (.mv (.c (.i .u64 1000)))] false [1,2,4,6,7,8] [2,4])
 (.seq (.seq (.reg [] [.o 19 (.fa 0 (.t 2)),
 .o 20 (.ld false 1 .cp (.k 19)),
 .o 21 (.bin .eql (.k 20) (.c (.i .i64 1)))] false [1,2,4,6,7,8,21] [2,4])
 (.cond 21 (.reg [] [.o 8 (.mv (.c (.i .u64 62)))] false [1,2,4,6,7,8] [2,4])
 .skip))
 (.seq (.seq (.reg [] [.o 22 (.mv (.k 6)),
 .o 23 (.mv (.c (.i .i64 0)))] false [1,2,4,7,8,22,23] [2,4])
 (.blk 0 (.loop (.seq (.reg [] [.o 24 (.bin .lss (.t 23) (.t 22))] false [1,2,4,7,8,22,23,24] [2,4])
 (.seq (.cond 24 .skip
 (.exit 0))
 (.seq (.blk 1 (.seq (.reg [] [.o 9 (.mv (.c (.l .o 2 [])))] false [1,2,4,7,8,9,22,23] [2,4])
 (.seq (.seq (.reg [] [.o 25 (.mv (.t 1)),
 .o 26 (.mv (.t 8)),
 .o 27 (.call n_octet_In_Num [.k 25,.k 26]),
 .o 28 (.mv (.c (.i .u64 0)))] false [1,2,4,7,8,9,22,23,27,28] [2,4])
 (.blk 2 (.loop (.seq (.reg [] [.o 29 (.bin .lss (.t 28) (.t 27))] false [1,2,4,7,8,9,22,23,27,28,29] [2,4])
 (.seq (.cond 29 .skip
 (.exit 2))
 (.seq (.blk 3 (.seq (.reg [] [.o 30 (.mv (.t 1)),
 .o 31 (.call n_octet_In_Long [.k 30]),
 .o 10 (.mv (.k 31))] false [1,2,4,7,8,9,10,22,23,27,28] [2,4])
 (.seq (.reg [] [.o 32 (.mv (.k 9)),
 .o 33 (.mv (.k 10)),
 .o 34 (.mv (.t 1)),
 .o 35 (.call n_octet_In_Int [.k 34]),
 .o 36 (.call n_elder_item [.k 33,.k 35]),
 .o 37 (.bs 2 1 (.a ([.f .f64 0,.i .i64 0])) [(0,.k 36)]),
 .z 38 (.app 2 16 (.k 32) (.k 37)) 1,
 .o 9 (.mv (.k 38))] false [1,2,4,7,8,9,22,23,27,28] [2,4])
 (.seq (.reg [] [.o 39 (.mv (.t 1)),
 .o 40 (.call n_octet_In_Err [.k 39]),
 .o 41 (.bin .neq (.k 40) (.c (.i .i64 0)))] false [1,2,4,7,8,9,22,23,27,28,41] [2,4])
 (.cond 41 (.seq (.reg [] [.o 42 (.ld true 5 .cp (.k 2)),
 .u 43 (.mv (.k 1)) [0] 0,
 .u 44 (.call n_octet_In_Err [.k 43]) [0] 0,
 .s (.st 5 (.t 4) (.k 42)),
 .o 5 (.mv (.k 44))] true [4,5] [4])
 .ret)
 .skip)))))
 (.reg [] [.o 45 (.bin .add (.k 28) (.c (.i .u64 1))),
 .o 28 (.mv (.k 45))] false [1,2,4,7,8,9,22,23,27,28] [2,4])))))))
 (.reg [] [.o 46 (.fa 3 (.t 2)),
 .o 47 (.ld false 1 .tk (.k 46)),
 .o 48 (.mv (.k 9)),
 .o 49 (.bs 1 1 (.l .o 2 []) [(0,.k 48)]),
 .z 50 (.app 1 24 (.k 47) (.k 49)) 1,
 .o 51 (.fa 3 (.t 2)),
 .s (.st 1 (.k 51) (.k 50))] false [1,2,4,7,8,22,23] [2,4]))))
 (.reg [] [.o 52 (.bin .add (.k 23) (.c (.i .i64 1))),
 .o 23 (.mv (.k 52))] false [1,2,4,7,8,22,23] [2,4])))))))
 (.seq (.seq (.reg [] [.o 53 (.mv (.k 7)),
 .o 54 (.mv (.c (.i .i64 0)))] false [1,2,4,53,54] [2,4])
 (.blk 4 (.loop (.seq (.reg [] [.o 55 (.bin .lss (.t 54) (.t 53))] false [1,2,4,53,54,55] [2,4])
 (.seq (.cond 55 .skip
 (.exit 4))
 (.seq (.blk 5 (.reg [] [.o 56 (.fa 4 (.t 2)),
 .o 57 (.ld false 1 .tk (.k 56)),
 .u 58 (.mv (.t 1)) [0,1] 0,
 .u 59 (.call n_octet_In_Num [.k 58,.c (.i .u64 1125899906842624)]) [0,1] 0,
 .u 60 (.cv (.int .i64) (.k 59)) [0,1] 0,
 .u 61 (.bs 1 1 (.i .i64 0) [(0,.k 60)]) [0,1] 0,
 .z 62 (.app 1 8 (.k 57) (.k 61)) 1,
 .o 63 (.fa 4 (.t 2)),
 .s (.st 1 (.k 63) (.k 62))] true [1,2,4,53,54] [2,4]))
 (.reg [] [.o 64 (.bin .add (.k 54) (.c (.i .i64 1))),
 .o 54 (.mv (.k 64))] false [1,2,4,53,54] [2,4])))))))
 (.seq (.reg [] [.o 65 (.ld true 5 .cp (.k 2)),
 .u 66 (.mv (.k 1)) [0] 0,
 .u 67 (.call n_octet_In_End [.k 66]) [0] 0,
 .s (.st 5 (.t 4) (.k 65)),
 .o 5 (.mv (.k 67))] true [4,5] [4])
 .ret)))))))⟩

def F_octet_fixed_uint64 : F := ⟨3,[.inl 6],
 (.seq (.reg [] [.o 6 (.mv (.c (.l .o 1 [])))] false [0,1,2] [])
 (.seq (.seq (.reg [] [.o 7 (.mv (.k 2)),
 .o 8 (.mv (.c (.i .i64 0)))] false [0,1,7,8] [])
 (.blk 0 (.loop (.seq (.reg [] [.o 9 (.bin .lss (.t 8) (.t 7))] false [0,1,7,8,9] [])
 (.seq (.cond 9 .skip
 (.exit 0))
 (.seq (.blk 1 (.seq (.reg [] [.o 10 (.mv (.k 0)),
 .o 11 (.mv (.t 1)),
 .o 12 (.cv (.int .u8) (.k 11)),
 .o 13 (.bs 1 1 (.i .u8 0) [(0,.k 12)]),
 .z 14 (.app 1 1 (.k 10) (.k 13)) 1,
 .o 0 (.mv (.k 14))] false [0,1,7,8] [])
 (.reg [] [.o 15 (.mv (.k 1)),
 .o 16 (.bin .shr (.k 15) (.c (.i .u64 8))),
 .o 1 (.mv (.k 16))] false [0,1,7,8] [])))
 (.reg [] [.o 17 (.bin .add (.k 8) (.c (.i .i64 1))),
 .o 8 (.mv (.k 17))] false [0,1,7,8] [])))))))
 (.seq (.reg [] [.o 18 (.mv (.k 0)),
 .o 6 (.mv (.k 18))] false [6] [])
 .ret)))⟩

def F_octet_fixed_uint32 : F := ⟨3,[.inl 6],
 (.seq (.reg [] [.o 6 (.mv (.c (.l .o 1 [])))] false [0,1,2] [])
 (.seq (.seq (.reg [] [.o 7 (.mv (.k 2)),
 .o 8 (.mv (.c (.i .i64 0)))] false [0,1,7,8] [])
 (.blk 0 (.loop (.seq (.reg [] [.o 9 (.bin .lss (.t 8) (.t 7))] false [0,1,7,8,9] [])
 (.seq (.cond 9 .skip
 (.exit 0))
 (.seq (.blk 1 (.seq (.reg [] [.o 10 (.mv (.k 0)),
 .o 11 (.mv (.t 1)),
 .o 12 (.cv (.int .u8) (.k 11)),
 .o 13 (.bs 1 1 (.i .u8 0) [(0,.k 12)]),
 .z 14 (.app 1 1 (.k 10) (.k 13)) 1,
 .o 0 (.mv (.k 14))] false [0,1,7,8] [])
 (.reg [] [.o 15 (.mv (.k 1)),
 .o 16 (.bin .shr (.k 15) (.c (.i .u64 8))),
 .o 1 (.mv (.k 16))] false [0,1,7,8] [])))
 (.reg [] [.o 17 (.bin .add (.k 8) (.c (.i .i64 1))),
 .o 8 (.mv (.k 17))] false [0,1,7,8] [])))))))
 (.seq (.reg [] [.o 18 (.mv (.k 0)),
 .o 6 (.mv (.k 18))] false [6] [])
 .ret)))⟩

def F_crc_Table_More : F := ⟨3,[.inl 6],
 (.seq (.reg [] [.o 6 (.mv (.c (.i .u32 0)))] false [0,1,2] [])
 (.seq (.reg [] [.o 9 (.mv (.k 1)),
 .o 10 (.un .xor (.k 9)),
 .o 7 (.mv (.k 10))] false [0,2,7] [])
 (.seq (.seq (.reg [] [.o 11 (.mv (.t 2)),
 .o 12 (.len true (.k 11)),
 .o 13 (.mv (.c (.i .i64 0)))] false [0,2,7,12,13] [])
 (.blk 0 (.loop (.seq (.reg [] [.o 14 (.bin .lss (.t 13) (.t 12))] false [0,2,7,12,13,14] [])
 (.seq (.cond 14 .skip
 (.exit 0))
 (.seq (.blk 1 (.seq (.reg [] [.o 15 (.mv (.t 13)),
 .o 8 (.mv (.k 15))] false [0,2,7,8,12,13] [])
 (.reg [] [.o 16 (.mv (.t 7)),
 .o 17 (.bin .shr (.k 16) (.c (.i .u64 8))),
 .u 18 (.mv (.t 0)) [0,1] 0,
 .u 19 (.mv (.t 7)) [0,1,2] 0,
 .u 20 (.cv (.int .u8) (.k 19)) [0,1,2] 0,
 .u 21 (.mv (.t 2)) [0,1,2,3,4] 0,
 .u 22 (.mv (.k 8)) [0,1,2,3,4,5] 0,
 .u 23 (.ixs (.k 21) (.k 22)) [0,1,2,3,4] 0,
 .u 24 (.bin .xor (.k 20) (.k 23)) [0,1,2] 0,
 .u 25 (.nc (.k 18)) [0,1,3,4,5,6,7,8] 0,
 .u 26 (.ia 1 (some 256) (.k 25) (.k 24)) [0,1] 0,
 .u 27 (.ld false 1 .cp (.k 26)) [0,1] 0,
 .o 28 (.bin .xor (.k 17) (.k 27)),
 .o 7 (.mv (.k 28))] true [0,2,7,12,13] [])))
 (.reg [] [.o 29 (.bin .add (.k 13) (.c (.i .i64 1))),
 .o 13 (.mv (.k 29))] false [0,2,7,12,13] [])))))))
 (.seq (.reg [] [.o 30 (.mv (.k 7)),
 .o 31 (.un .xor (.k 30)),
 .o 6 (.mv (.k 31))] false [6] [])
 .ret))))⟩

def F_section_meta : F := ⟨1,[.inl 2],
 (.seq (.reg [.zz 0] [.o 1 (.bx (.k 0)),
 .o 2 (.mv (.c (.s ⟨#[]⟩)))] false [1] [1])
 (.seq (.reg [] [.o 3 (.fa 1 (.t 1)),
 .o 4 (.ld false 1 .cp (.k 3)),
 .o 5 (.cv (.int .u64) (.k 4)),
 .o 6 (.call n_octet_Num [.c (.l .o 1 []),.k 5]),
 .u 7 (.fa 2 (.t 1)) [0,1,2,3] 0,
 .u 8 (.ld false 1 .cp (.k 7)) [0,1,2,3] 0,
 .o 9 (.call n_octet_Num [.k 6,.k 8]),
 .o 10 (.cv .str (.k 9)),
 .o 2 (.mv (.k 10))] true [2] [])
 .ret))⟩

def F_section_data : F := ⟨1,[.inl 2],
 (.seq (.reg [.zz 0] [.o 1 (.bx (.k 0)),
 .o 2 (.mv (.c (.s ⟨#[]⟩)))] false [1] [1])
 (.seq (.reg [] [.o 3 (.mv (.c (.l .o 1 [])))] false [1,3] [1])
 (.seq (.seq (.reg [] [.o 8 (.fa 3 (.t 1)),
 .o 9 (.ld false 1 .cp (.k 8)),
 .o 10 (.len false (.t 9)),
 .o 11 (.mv (.c (.i .i64 0)))] false [1,3,9,10,11] [1])
 (.blk 0 (.loop (.seq (.reg [] [.o 12 (.bin .lss (.t 11) (.t 10))] false [1,3,9,10,11,12] [1])
 (.seq (.cond 12 .skip
 (.exit 0))
 (.seq (.blk 1 (.seq (.reg [] [.o 13 (.ia 1 none (.t 9) (.t 11)),
 .o 14 (.ld false 1 .cp (.k 13)),
 .o 5 (.mv (.k 14))] false [1,3,5,9,10,11] [1])
 (.reg [] [.o 15 (.mv (.k 3)),
 .z 16 (.mv (.k 5)) 2,
 .o 17 (.call n_section_Items [.k 15,.k 16]),
 .o 3 (.mv (.k 17))] false [1,3,9,10,11] [1])))
 (.reg [] [.o 18 (.bin .add (.k 11) (.c (.i .i64 1))),
 .o 11 (.mv (.k 18))] false [1,3,9,10,11] [1])))))))
 (.seq (.seq (.reg [] [.o 19 (.fa 4 (.k 1)),
 .o 20 (.ld false 1 .tk (.k 19)),
 .o 21 (.len false (.t 20)),
 .o 22 (.mv (.c (.i .i64 0)))] false [3,20,21,22] [])
 (.blk 2 (.loop (.seq (.reg [] [.o 23 (.bin .lss (.t 22) (.t 21))] false [3,20,21,22,23] [])
 (.seq (.cond 23 .skip
 (.exit 2))
 (.seq (.blk 3 (.seq (.reg [] [.o 24 (.ia 1 none (.t 20) (.t 22)),
 .o 25 (.ld false 1 .cp (.k 24)),
 .o 7 (.mv (.k 25))] false [3,7,20,21,22] [])
 (.reg [] [.o 26 (.mv (.k 3)),
 .o 27 (.mv (.k 7)),
 .o 28 (.cv (.int .u64) (.k 27)),
 .o 29 (.call n_octet_Num [.k 26,.k 28]),
 .o 3 (.mv (.k 29))] false [3,20,21,22] [])))
 (.reg [] [.o 30 (.bin .add (.k 22) (.c (.i .i64 1))),
 .o 22 (.mv (.k 30))] false [3,20,21,22] [])))))))
 (.seq (.reg [] [.o 31 (.mv (.k 3)),
 .o 32 (.cv .str (.k 31)),
 .o 2 (.mv (.k 32))] false [2] [])
 .ret)))))⟩

def F_container_heap_Init : F := ⟨1,[],
 (.seq (.reg [] [.o 4 (.mv (.t 0)),
 .o 5 (.inv "Len" (.k 4) []),
 .o 2 (.mv (.k 5))] false [0,2] [])
 (.seq (.reg [] [.o 6 (.mv (.t 2)),
 .o 7 (.bin .quo (.k 6) (.c (.i .i64 2))),
 .o 8 (.bin .sub (.k 7) (.c (.i .i64 1))),
 .o 3 (.mv (.k 8))] false [0,2,3] [])
 (.blk 0 (.loop (.seq (.seq (.reg [] [.o 9 (.mv (.t 3)),
 .o 10 (.bin .geq (.k 9) (.c (.i .i64 0)))] false [0,2,3,10] [])
 (.cond 10 .skip
 (.exit 0)))
 (.seq (.blk 1 (.reg [] [.o 13 (.mv (.t 0)),
 .o 14 (.mv (.t 3)),
 .o 15 (.mv (.t 2)),
 .o 16 (.call n_container_heap_down [.k 13,.k 14,.k 15])] false [0,2,3] []))
 (.reg [] [.o 11 (.mv (.k 3)),
 .o 12 (.bin .sub (.k 11) (.c (.i .i64 1))),
 .o 3 (.mv (.k 12))] false [0,2,3] [])))))))⟩

def F_pile_Pile_Take : F := ⟨1,[.inr (2,true,2),.inl 3],
 (.seq (.reg [] [.o 2 (.al ([.f .f64 0,.i .i64 0])),
 .o 3 (.mv (.c (.b false)))] false [0,2] [2])
 (.seq (.seq (.reg [] [.o 4 (.mv (.t 0)),
 .o 5 (.nc (.k 4)),
 .o 6 (.fa 0 (.k 5)),
 .z 7 (.lda 1 (.k 6)) 1,
 .o 8 (.len false (.k 7)),
 .o 9 (.bin .eql (.k 8) (.c (.i .i64 0)))] false [0,2,9] [2])
 (.cond 9 (.seq (.reg [] [.o 10 (.bd ([.f .f64 0,.i .i64 0]) []),
 .s (.st 2 (.t 2) (.k 10)),
 .o 3 (.mv (.c (.b false)))] false [2,3] [2])
 .ret)
 .skip))
 (.seq (.reg [] [.o 11 (.mv (.k 0)),
 .o 12 (.nc (.k 11)),
 .o 13 (.fa 0 (.k 12)),
 .o 14 (.mi t_pile_items_u (.k 13)),
 .o 15 (.call n_container_heap_Pop [.k 14]),
 .o 16 (.ta t_pile_Item (.k 15)),
 .s (.st 2 (.t 2) (.k 16)),
 .o 3 (.mv (.c (.b true)))] false [2,3] [2])
 .ret)))⟩

def F_real_Key : F := ⟨1,[.inl 2],
 (.seq (.reg [] [.o 2 (.mv (.c (.i .u64 0)))] false [0] [])
 (.seq (.reg [] [.o 4 (.mv (.k 0)),
 .o 5 (.call n_real_Canon [.k 4]),
 .o 6 (.bits (.k 5)),
 .o 3 (.mv (.k 6))] false [3] [])
 (.seq (.seq (.reg [] [.o 7 (.mv (.t 3)),
 .o 8 (.bin .and (.k 7) (.c (.i .u64 9223372036854775808))),
 .o 9 (.bin .neq (.k 8) (.c (.i .u64 0)))] false [3,9] [])
 (.cond 9 (.seq (.reg [] [.o 10 (.mv (.k 3)),
 .o 11 (.un .xor (.k 10)),
 .o 2 (.mv (.k 11))] false [2] [])
 .ret)
 .skip))
 (.seq (.reg [] [.o 12 (.mv (.k 3)),
 .o 13 (.bin .or (.k 12) (.c (.i .u64 9223372036854775808))),
 .o 2 (.mv (.k 13))] false [2] [])
 .ret))))⟩

def F_octet_In_fail : F := ⟨2,[],
 (.reg [] [.o 4 (.mv (.t 0)),
 .o 5 (.mv (.k 0)),
 .o 6 (.mv (.k 1)),
 .o 7 (.nc (.k 4)),
 .o 8 (.fa 0 (.k 7)),
 .s (.st 1 (.k 8) (.c (.s ⟨#[]⟩))),
 .o 9 (.nc (.k 5)),
 .o 10 (.fa 1 (.k 9)),
 .s (.st 1 (.k 10) (.k 6))] false [] [])⟩

def F_section_take : F := ⟨1,[.inl 2,.inl 3],
 (.seq (.reg [] [.o 2 (.mv (.c (.l .o 2 []))),
 .o 3 (.mv (.c (.i .i64 0)))] false [0] [])
 (.seq (.reg [] [.o 11 (.mv (.t 0)),
 .o 12 (.call n_octet_In_Num [.k 11,.c (.i .u64 1000)]),
 .o 4 (.mv (.k 12))] false [0,4] [])
 (.seq (.reg [] [.o 5 (.mv (.c (.l .o 2 [])))] false [0,4,5] [])
 (.seq (.seq (.reg [] [.o 13 (.mv (.k 4)),
 .o 14 (.mv (.c (.i .u64 0)))] false [0,5,13,14] [])
 (.blk 0 (.loop (.seq (.reg [] [.o 15 (.bin .lss (.t 14) (.t 13))] false [0,5,13,14,15] [])
 (.seq (.cond 15 .skip
 (.exit 0))
 (.seq (.blk 1 (.seq (.reg [] [.o 16 (.mv (.t 0)),
 .o 17 (.call n_octet_In_Long [.k 16]),
 .o 6 (.mv (.k 17))] false [0,5,6,13,14] [])
 (.seq (.reg [] [.o 18 (.mv (.t 0)),
 .o 19 (.call n_octet_In_Int [.k 18]),
 .o 7 (.mv (.k 19))] false [0,5,6,7,13,14] [])
 (.seq (.seq (.reg [] [.o 20 (.mv (.t 0)),
 .o 21 (.call n_octet_In_Err [.k 20]),
 .o 8 (.mv (.k 21))] false [0,5,6,7,8,13,14] [])
 (.seq (.reg [] [.o 22 (.mv (.t 8)),
 .o 23 (.bin .neq (.k 22) (.c (.i .i64 0)))] false [0,5,6,7,8,13,14,23] [])
 (.cond 23 (.seq (.reg [] [.o 24 (.mv (.k 8)),
 .o 2 (.mv (.c (.l .o 2 []))),
 .o 3 (.mv (.k 24))] false [2,3] [])
 .ret)
 .skip)))
 (.seq (.reg [] [.o 26 (.mv (.k 6)),
 .o 27 (.call n_real_Back [.k 26]),
 .o 25 (.mv (.k 27)),
 .o 28 (.ex false 0 25),
 .o 29 (.ex false 1 25),
 .o 9 (.mv (.k 28)),
 .o 10 (.mv (.k 29))] false [0,5,7,9,10,13,14] [])
 (.seq (.seq (.reg [] [.o 30 (.mv (.k 10)),
 .o 31 (.un .not (.k 30))] false [0,5,7,9,13,14,31] [])
 (.cond 31 (.seq (.reg [] [.o 2 (.mv (.c (.l .o 2 []))),
 .o 3 (.mv (.c (.i .i64 2)))] false [2,3] [])
 .ret)
 .skip))
 (.reg [] [.o 32 (.mv (.k 5)),
 .o 33 (.mv (.k 9)),
 .o 34 (.mv (.k 7)),
 .o 35 (.bd ([.f .f64 0,.i .i64 0]) [(0,1,.k 33),(1,1,.k 34)]),
 .o 36 (.bs 2 1 (.a ([.f .f64 0,.i .i64 0])) [(0,.k 35)]),
 .z 37 (.app 2 16 (.k 32) (.k 36)) 1,
 .o 5 (.mv (.k 37))] false [0,5,13,14] [])))))))
 (.reg [] [.o 38 (.bin .add (.k 14) (.c (.i .u64 1))),
 .o 14 (.mv (.k 38))] false [0,5,13,14] [])))))))
 (.seq (.reg [] [.o 39 (.mv (.k 5)),
 .o 40 (.mv (.k 0)),
 .o 41 (.call n_octet_In_Err [.k 40]),
 .o 2 (.mv (.k 39)),
 .o 3 (.mv (.k 41))] false [2,3] [])
 .ret)))))⟩

def F_c_ref03_Cmp : F := ⟨2,[.inl 4],
 (.seq (.reg [] [.o 4 (.mv (.c (.i .i64 0)))] false [0,1] [])
 (.seq (.seq (.reg [] [.o 5 (.mv (.t 0)),
 .o 6 (.call n_c_ref03_Key [.k 5]),
 .o 7 (.mv (.t 1)),
 .o 8 (.call n_c_ref03_Key [.k 7]),
 .o 9 (.bin .lss (.k 6) (.k 8))] false [0,1,9] [])
 (.cond 9 (.seq (.reg [] [.o 4 (.mv (.c (.i .i64 (-1))))] false [4] [])
 .ret)
 .skip))
 (.seq (.seq (.reg [] [.o 10 (.mv (.k 0)),
 .o 11 (.call n_c_ref03_Key [.k 10]),
 .o 12 (.mv (.k 1)),
 .o 13 (.call n_c_ref03_Key [.k 12]),
 .o 14 (.bin .gtr (.k 11) (.k 13))] false [14] [])
 (.cond 14 (.seq (.reg [] [.o 4 (.mv (.c (.i .i64 1)))] false [4] [])
 .ret)
 .skip))
 (.seq (.reg [] [.o 4 (.mv (.c (.i .i64 0)))] false [4] [])
 .ret))))⟩

def F_elder_flat : F := ⟨1,[.inl 2,.inl 3],
 (.seq (.reg [] [.o 2 (.mv (.c (.l .o 2 []))),
 .o 3 (.mv (.c (.i .i64 0)))] false [0] [])
 (.seq (.reg [] [.o 7 (.mv (.t 0)),
 .o 8 (.call n_octet_In_Word [.k 7]),
 .o 4 (.mv (.k 8))] false [0,4] [])
 (.seq (.seq (.reg [] [.o 9 (.mv (.t 0)),
 .o 10 (.call n_octet_In_Err [.k 9]),
 .o 11 (.bin .eql (.k 10) (.c (.i .i64 0))),
 .o 12 (.mv (.k 11)),
 .c 12 true 13 (.mv (.t 4)),
 .c 12 true 14 (.bin .gtr (.k 13) (.c (.i .u32 1000))),
 .o 15 (.pick (.k 12) (.k 14) (.c (.b false)))] false [0,4,15] [])
 (.cond 15 (.seq (.reg [] [.o 2 (.mv (.c (.l .o 2 []))),
 .o 3 (.mv (.c (.i .i64 3)))] false [2,3] [])
 .ret)
 .skip))
 (.seq (.reg [] [.o 5 (.mv (.c (.l .o 2 [])))] false [0,4,5] [])
 (.seq (.seq (.reg [] [.o 16 (.mv (.k 4)),
 .o 17 (.mv (.c (.i .u32 0)))] false [0,5,16,17] [])
 (.blk 0 (.loop (.seq (.reg [] [.o 18 (.bin .lss (.t 17) (.t 16))] false [0,5,16,17,18] [])
 (.seq (.cond 18 .skip
 (.exit 0))
 (.seq (.blk 1 (.seq (.reg [] [.o 19 (.mv (.t 0)),
 .o 20 (.call n_octet_In_Long [.k 19]),
 .o 6 (.mv (.k 20))] false [0,5,6,16,17] [])
 (.seq (.reg [] [.o 21 (.mv (.k 5)),
 .o 22 (.mv (.k 6)),
 .o 23 (.mv (.t 0)),
 .o 24 (.call n_octet_In_Long [.k 23]),
 .o 25 (.cv (.int .i64) (.k 24)),
 .o 26 (.call n_elder_item [.k 22,.k 25]),
 .o 27 (.bs 2 1 (.a ([.f .f64 0,.i .i64 0])) [(0,.k 26)]),
 .z 28 (.app 2 16 (.k 21) (.k 27)) 1,
 .o 5 (.mv (.k 28))] false [0,5,16,17] [])
 (.seq (.reg [] [.o 29 (.mv (.t 0)),
 .o 30 (.call n_octet_In_Err [.k 29]),
 .o 31 (.bin .neq (.k 30) (.c (.i .i64 0)))] false [0,5,16,17,31] [])
 (.cond 31 (.seq (.reg [] [.o 32 (.mv (.k 0)),
 .o 33 (.call n_octet_In_Err [.k 32]),
 .o 2 (.mv (.c (.l .o 2 []))),
 .o 3 (.mv (.k 33))] false [2,3] [])
 .ret)
 .skip)))))
 (.reg [] [.o 34 (.bin .add (.k 17) (.c (.i .u32 1))),
 .o 17 (.mv (.k 34))] false [0,5,16,17] [])))))))
 (.seq (.reg [] [.o 35 (.mv (.k 5)),
 .o 36 (.mv (.k 0)),
 .o 37 (.call n_octet_In_End [.k 36]),
 .o 2 (.mv (.k 35)),
 .o 3 (.mv (.k 37))] false [2,3] [])
 .ret))))))⟩

def F_spread_Deal : F := ⟨2,[.inl 4],
 (.seq (.reg [.zz 0] [.o 4 (.mv (.c (.l .o 1 [])))] false [0,1] [])
 (.seq (.reg [] [.o 7 (.mv (.t 1)),
 .o 8 (.mx true [.k 7,.c (.i .i64 0)]),
 .o 9 (.ms 1 24 (.l .o 2 []) (.t 8) (.t 8)),
 .o 5 (.mv (.k 9))] false [0,1,5] [5])
 (.seq (.seq (.reg [] [.o 6 (.mv (.c (.i .i64 0)))] false [0,1,5,6] [5])
 (.blk 0 (.loop (.seq (.seq (.reg [] [.o 10 (.mv (.t 6)),
 .o 11 (.mv (.t 0)),
 .o 12 (.len false (.k 11)),
 .o 13 (.bin .lss (.k 10) (.k 12)),
 .o 14 (.mv (.k 13)),
 .c 14 true 15 (.mv (.t 1)),
 .c 14 true 16 (.bin .gtr (.k 15) (.c (.i .i64 0))),
 .o 17 (.pick (.k 14) (.k 16) (.c (.b false)))] false [0,1,5,6,17] [5])
 (.cond 17 .skip
 (.exit 0)))
 (.seq (.blk 1 (.reg [.thaw 5] [.o 20 (.mv (.t 5)),
 .u 21 (.mv (.t 6)) [0] 0,
 .u 22 (.mv (.t 1)) [0,1] 0,
 .u 23 (.bin .rem (.k 21) (.k 22)) [0] 0,
 .u 24 (.mv (.t 5)) [0,1,2,3] 0,
 .u 25 (.mv (.t 6)) [0,1,2,3,4] 0,
 .u 26 (.mv (.t 1)) [0,1,2,3,4,5] 0,
 .u 27 (.bin .rem (.k 25) (.k 26)) [0,1,2,3,4] 0,
 .u 28 (.ia 1 none (.k 24) (.k 27)) [0,1,2,3] 0,
 .u 29 (.ld false 1 .tk (.k 28)) [0,1,2,3] 0,
 .u 30 (.mv (.t 0)) [0,1,2,3,4,5,6,7,8,9] 0,
 .u 31 (.mv (.t 6)) [0,1,2,3,4,5,6,7,8,9,10] 0,
 .u 32 (.ia 2 none (.k 30) (.k 31)) [0,1,2,3,4,5,6,7,8,9] 0,
 .u 33 (.ld true 2 .cp (.k 32)) [0,1,2,3,4,5,6,7,8,9] 0,
 .u 34 (.bs 2 1 (.a ([.f .f64 0,.i .i64 0])) [(0,.k 33)]) [0,1,2,3,4,5,6,7,8,9] 0,
 .u 35 (.app 2 16 (.k 29) (.k 34)) [0,1,2,3] 1,
 .o 36 (.ia 1 none (.k 20) (.k 23)),
 .s (.st 1 (.k 36) (.k 35))] true [0,1,5,6] [5]))
 (.reg [] [.o 18 (.mv (.k 6)),
 .o 19 (.bin .add (.k 18) (.c (.i .i64 1))),
 .o 6 (.mv (.k 19))] false [0,1,5,6] [5]))))))
 (.seq (.reg [.unth 5] [.o 37 (.mv (.k 5)),
 .o 4 (.mv (.k 37))] false [4] [])
 .ret))))⟩

def F_elder_total : F := ⟨1,[.inl 2,.inl 3],
 (.seq (.reg [] [.o 2 (.mv (.c (.i .i64 0))),
 .o 3 (.mv (.c (.i .i64 0)))] false [0] [])
 (.seq (.reg [] [.o 5 (.mv (.t 0)),
 .o 6 (.call n_octet_In_Long [.k 5]),
 .o 4 (.mv (.k 6))] false [0,4] [])
 (.seq (.seq (.reg [] [.o 7 (.mv (.t 0)),
 .o 8 (.call n_octet_In_Err [.k 7]),
 .o 9 (.bin .eql (.k 8) (.c (.i .i64 0))),
 .o 10 (.mv (.k 9)),
 .c 10 true 11 (.mv (.t 4)),
 .c 10 true 12 (.bin .gtr (.k 11) (.c (.i .u64 1125899906842624))),
 .o 13 (.pick (.k 10) (.k 12) (.c (.b false)))] false [0,4,13] [])
 (.cond 13 (.seq (.reg [] [.o 2 (.mv (.c (.i .i64 0))),
 .o 3 (.mv (.c (.i .i64 4)))] false [2,3] [])
 .ret)
 .skip))
 (.seq (.reg [] [.o 14 (.mv (.k 4)),
 .o 15 (.cv (.int .i64) (.k 14)),
 .o 16 (.mv (.k 0)),
 .o 17 (.call n_octet_In_End [.k 16]),
 .o 2 (.mv (.k 15)),
 .o 3 (.mv (.k 17))] false [2,3] [])
 .ret))))⟩

def F_wire_Even : F := ⟨2,[.inl 4],
 (.seq (.reg [] [.o 4 (.mv (.c (.l .o 1 [])))] false [0,1] [])
 (.seq (.reg [] [.o 7 (.mv (.t 1)),
 .o 8 (.mx true [.k 7,.c (.i .i64 0)]),
 .o 9 (.ms 1 8 (.i .i64 0) (.t 8) (.t 8)),
 .o 5 (.mv (.k 9))] false [0,1,5] [5])
 (.seq (.seq (.reg [.thaw 5] [.o 10 (.mv (.t 5)),
 .o 11 (.len false (.k 10)),
 .o 12 (.mv (.c (.i .i64 0)))] false [0,1,5,11,12] [5])
 (.blk 0 (.loop (.seq (.reg [] [.o 13 (.bin .lss (.t 12) (.t 11))] false [0,1,5,11,12,13] [5])
 (.seq (.cond 13 .skip
 (.exit 0))
 (.seq (.blk 1 (.seq (.reg [] [.o 14 (.mv (.t 12)),
 .o 6 (.mv (.k 14))] false [0,1,5,6,11,12] [5])
 (.seq (.reg [.thaw 5] [.o 15 (.mv (.t 5)),
 .o 16 (.mv (.t 6)),
 .o 17 (.mv (.t 0)),
 .o 18 (.mv (.t 1)),
 .o 19 (.bin .quo (.k 17) (.k 18)),
 .o 20 (.ia 1 none (.k 15) (.k 16)),
 .s (.st 1 (.k 20) (.k 19))] false [0,1,5,6,11,12] [5])
 (.seq (.reg [] [.o 21 (.mv (.t 6)),
 .o 22 (.mv (.t 0)),
 .o 23 (.mv (.t 1)),
 .o 24 (.bin .rem (.k 22) (.k 23)),
 .o 25 (.bin .lss (.k 21) (.k 24))] false [0,1,5,6,11,12,25] [5])
 (.cond 25 (.reg [.thaw 5] [.o 26 (.mv (.t 5)),
 .o 27 (.mv (.k 6)),
 .o 28 (.ia 1 none (.t 26) (.t 27)),
 .o 29 (.ld false 1 .cp (.k 28)),
 .o 30 (.bin .add (.k 29) (.c (.i .i64 1))),
 .o 31 (.ia 1 none (.k 26) (.k 27)),
 .s (.st 1 (.k 31) (.k 30))] false [0,1,5,11,12] [5])
 .skip)))))
 (.reg [] [.o 32 (.bin .add (.k 12) (.c (.i .i64 1))),
 .o 12 (.mv (.k 32))] false [0,1,5,11,12] [5])))))))
 (.seq (.reg [.unth 5] [.o 33 (.mv (.k 5)),
 .o 4 (.mv (.k 33))] false [4] [])
 .ret))))⟩

def F_octet_In_Long : F := ⟨1,[.inl 2],
 (.seq (.reg [] [.o 2 (.mv (.c (.i .u64 0)))] false [0] [])
 (.seq (.reg [] [.o 3 (.mv (.c (.i .u64 0)))] false [0,3] [])
 (.seq (.seq (.reg [] [.o 6 (.mv (.k 0)),
 .o 7 (.call n_octet_In_Bytes [.k 6,.c (.i .i64 8)]),
 .z 8 (.cv .bytes (.k 7)) 1,
 .o 9 (.len false (.t 8)),
 .o 10 (.mv (.c (.i .i64 0)))] false [3,8,9,10] [])
 (.blk 0 (.loop (.seq (.reg [] [.o 11 (.bin .lss (.t 10) (.t 9))] false [3,8,9,10,11] [])
 (.seq (.cond 11 .skip
 (.exit 0))
 (.seq (.blk 1 (.seq (.reg [] [.o 12 (.mv (.t 10)),
 .o 13 (.ia 1 none (.t 8) (.t 10)),
 .o 14 (.ld false 1 .cp (.k 13)),
 .o 4 (.mv (.k 12)),
 .o 5 (.mv (.k 14))] false [3,4,5,8,9,10] [])
 (.reg [] [.o 15 (.mv (.k 3)),
 .o 16 (.mv (.k 5)),
 .o 17 (.cv (.int .u64) (.k 16)),
 .o 18 (.mv (.k 4)),
 .o 19 (.bin .mul (.c (.i .i64 8)) (.k 18)),
 .o 20 (.bin .shl (.k 17) (.k 19)),
 .o 21 (.bin .or (.k 15) (.k 20)),
 .o 3 (.mv (.k 21))] false [3,8,9,10] [])))
 (.reg [] [.o 22 (.bin .add (.k 10) (.c (.i .i64 1))),
 .o 10 (.mv (.k 22))] false [3,8,9,10] [])))))))
 (.seq (.reg [] [.o 23 (.mv (.k 3)),
 .o 2 (.mv (.k 23))] false [2] [])
 .ret))))⟩

def F_elder_item : F := ⟨2,[.inr (4,true,2)],
 (.seq (.reg [] [.o 4 (.al ([.f .f64 0,.i .i64 0]))] false [0,1,4] [4])
 (.seq (.reg [] [.o 5 (.mv (.k 0)),
 .o 6 (.frbits (.k 5)),
 .o 7 (.mv (.k 1)),
 .o 8 (.bd ([.f .f64 0,.i .i64 0]) [(0,1,.k 6),(1,1,.k 7)]),
 .o 9 (.call n_pile_Item_Canon [.k 8]),
 .s (.st 2 (.t 4) (.k 9))] false [4] [4])
 .ret))⟩

def F_octet_In_Int : F := ⟨1,[.inl 2],
 (.seq (.reg [] [.o 2 (.mv (.c (.i .i64 0)))] false [0] [])
 (.seq (.reg [] [.o 4 (.mv (.k 0)),
 .o 5 (.call n_octet_In_Num [.k 4,.c (.i .u64 18446744073709551615)]),
 .o 3 (.mv (.k 5))] false [3] [])
 (.seq (.reg [] [.o 6 (.mv (.t 3)),
 .o 7 (.bin .shr (.k 6) (.c (.i .u64 1))),
 .o 8 (.cv (.int .i64) (.k 7)),
 .o 9 (.mv (.k 3)),
 .o 10 (.bin .and (.k 9) (.c (.i .u64 1))),
 .o 11 (.cv (.int .i64) (.k 10)),
 .o 12 (.un .neg (.k 11)),
 .o 13 (.bin .xor (.k 8) (.k 12)),
 .o 2 (.mv (.k 13))] false [2] [])
 .ret)))⟩

def F_section_Items : F := ⟨2,[.inl 4],
 (.seq (.reg [.zz 1] [.o 4 (.mv (.c (.l .o 1 [])))] false [0,1] [])
 (.seq (.reg [] [.o 7 (.mv (.k 0)),
 .o 8 (.mv (.t 1)),
 .o 9 (.len false (.k 8)),
 .o 10 (.cv (.int .u64) (.k 9)),
 .o 11 (.call n_octet_Num [.k 7,.k 10]),
 .o 0 (.mv (.k 11))] false [0,1] [])
 (.seq (.seq (.reg [] [.o 12 (.mv (.k 1)),
 .o 13 (.len false (.t 12)),
 .o 14 (.mv (.c (.i .i64 0)))] false [0,12,13,14] [])
 (.blk 0 (.loop (.seq (.reg [] [.o 15 (.bin .lss (.t 14) (.t 13))] false [0,12,13,14,15] [])
 (.seq (.cond 15 .skip
 (.exit 0))
 (.seq (.blk 1 (.seq (.reg [] [.o 16 (.ia 2 none (.t 12) (.t 14)),
 .o 17 (.ld true 2 .cp (.k 16)),
 .o 6 (.al ([.f .f64 0,.i .i64 0])),
 .s (.st 2 (.t 6) (.k 17))] false [0,6,12,13,14] [6])
 (.reg [] [.o 18 (.mv (.k 0)),
 .u 19 (.fa 0 (.t 6)) [0] 0,
 .u 20 (.ld false 1 .cp (.k 19)) [0] 0,
 .u 21 (.call n_real_Key [.k 20]) [0] 0,
 .o 22 (.call n_octet_Long [.k 18,.k 21]),
 .u 23 (.fa 1 (.t 6)) [0,1,2,3,4] 0,
 .u 24 (.ld false 1 .cp (.k 23)) [0,1,2,3,4] 0,
 .o 25 (.call n_octet_Int [.k 22,.k 24]),
 .o 0 (.mv (.k 25))] true [0,12,13,14] [])))
 (.reg [] [.o 26 (.bin .add (.k 14) (.c (.i .i64 1))),
 .o 14 (.mv (.k 26))] false [0,12,13,14] [])))))))
 (.seq (.reg [] [.o 27 (.mv (.k 0)),
 .o 4 (.mv (.k 27))] false [4] [])
 .ret))))⟩

def F_container_heap_down : F := ⟨3,[.inl 6],
 (.seq (.reg [] [.o 6 (.mv (.c (.b false)))] false [0,1,2] [])
 (.seq (.reg [] [.o 11 (.mv (.t 1)),
 .o 7 (.mv (.k 11))] false [0,1,2,7] [])
 (.seq (.blk 0 (.loop (.blk 1 (.seq (.reg [] [.o 12 (.mv (.t 7)),
 .o 13 (.bin .mul (.c (.i .i64 2)) (.k 12)),
 .o 14 (.bin .add (.k 13) (.c (.i .i64 1))),
 .o 8 (.mv (.k 14))] false [0,1,2,7,8] [])
 (.seq (.seq (.reg [] [.o 15 (.mv (.t 8)),
 .o 16 (.mv (.t 2)),
 .o 17 (.bin .geq (.k 15) (.k 16)),
 .o 18 (.mv (.k 17)),
 .c 18 false 19 (.mv (.t 8)),
 .c 18 false 20 (.bin .lss (.k 19) (.c (.i .i64 0))),
 .o 21 (.pick (.k 18) (.c (.b true)) (.k 20))] false [0,1,2,7,8,21] [])
 (.cond 21 (.exit 0)
 .skip))
 (.seq (.reg [] [.o 22 (.mv (.t 8)),
 .o 9 (.mv (.k 22))] false [0,1,2,7,8,9] [])
 (.seq (.seq (.reg [] [.o 23 (.mv (.t 8)),
 .o 24 (.bin .add (.k 23) (.c (.i .i64 1))),
 .o 10 (.mv (.k 24))] false [0,1,2,7,8,9,10] [])
 (.seq (.reg [] [.o 25 (.mv (.t 10)),
 .o 26 (.mv (.t 2)),
 .o 27 (.bin .lss (.k 25) (.k 26)),
 .o 28 (.mv (.k 27)),
 .c 28 true 29 (.mv (.t 0)),
 .c 28 true 30 (.mv (.t 10)),
 .c 28 true 31 (.mv (.k 8)),
 .c 28 true 32 (.inv "Less" (.k 29) [.k 30,.k 31]),
 .o 33 (.pick (.k 28) (.k 32) (.c (.b false)))] false [0,1,2,7,9,10,33] [])
 (.cond 33 (.reg [] [.o 34 (.mv (.k 10)),
 .o 9 (.mv (.k 34))] false [0,1,2,7,9] [])
 .skip)))
 (.seq (.seq (.reg [] [.o 35 (.mv (.t 0)),
 .o 36 (.mv (.t 9)),
 .o 37 (.mv (.t 7)),
 .o 38 (.inv "Less" (.k 35) [.k 36,.k 37]),
 .o 39 (.un .not (.k 38))] false [0,1,2,7,9,39] [])
 (.cond 39 (.exit 0)
 .skip))
 (.seq (.reg [] [.o 40 (.mv (.t 0)),
 .o 41 (.mv (.k 7)),
 .o 42 (.mv (.t 9)),
 .o 43 (.inv "Swap" (.k 40) [.k 41,.k 42])] false [0,1,2,9] [])
 (.reg [] [.o 44 (.mv (.k 9)),
 .o 7 (.mv (.k 44))] false [0,1,2,7] []))))))))))
 (.seq (.reg [] [.o 45 (.mv (.k 7)),
 .o 46 (.mv (.k 1)),
 .o 47 (.bin .gtr (.k 45) (.k 46)),
 .o 6 (.mv (.k 47))] false [6] [])
 .ret))))⟩

def F_container_heap_Pop : F := ⟨1,[.inl 2],
 (.seq (.reg [] [.o 2 (.mv (.c (.nili)))] false [0] [])
 (.seq (.reg [] [.o 4 (.mv (.t 0)),
 .o 5 (.inv "Len" (.k 4) []),
 .o 6 (.bin .sub (.k 5) (.c (.i .i64 1))),
 .o 3 (.mv (.k 6))] false [0,3] [])
 (.seq (.reg [] [.o 7 (.mv (.t 0)),
 .o 8 (.mv (.t 3)),
 .o 9 (.inv "Swap" (.k 7) [.c (.i .i64 0),.k 8])] false [0,3] [])
 (.seq (.reg [] [.o 10 (.mv (.t 0)),
 .o 11 (.mv (.k 3)),
 .o 12 (.call n_container_heap_down [.k 10,.c (.i .i64 0),.k 11])] false [0] [])
 (.seq (.reg [] [.o 13 (.mv (.k 0)),
 .o 14 (.inv "Pop" (.k 13) []),
 .o 2 (.mv (.k 14))] false [2] [])
 .ret)))))⟩

def F_real_Back : F := ⟨1,[.inl 2,.inl 3],
 (.seq (.reg [] [.o 2 (.mv (.c (.f .f64 0))),
 .o 3 (.mv (.c (.b false)))] false [0] [])
 (.seq (.reg [] [.o 6 (.mv (.t 0)),
 .o 7 (.un .xor (.k 6)),
 .o 4 (.mv (.k 7))] false [0,4] [])
 (.seq (.seq (.reg [] [.o 8 (.mv (.t 0)),
 .o 9 (.bin .and (.k 8) (.c (.i .u64 9223372036854775808))),
 .o 10 (.bin .neq (.k 9) (.c (.i .u64 0)))] false [0,4,10] [])
 (.cond 10 (.reg [] [.o 11 (.mv (.t 0)),
 .o 12 (.bin .andNot (.k 11) (.c (.i .u64 9223372036854775808))),
 .o 4 (.mv (.k 12))] false [0,4] [])
 .skip))
 (.seq (.reg [] [.o 13 (.mv (.k 4)),
 .o 14 (.frbits (.k 13)),
 .o 5 (.mv (.k 14))] false [0,5] [])
 (.seq (.seq (.reg [] [.o 15 (.mv (.t 5)),
 .o 16 (.call n_real_Key [.k 15]),
 .o 17 (.mv (.k 0)),
 .o 18 (.bin .neq (.k 16) (.k 17))] false [5,18] [])
 (.cond 18 (.seq (.reg [] [.o 2 (.mv (.c (.f .f64 0))),
 .o 3 (.mv (.c (.b false)))] false [2,3] [])
 .ret)
 .skip))
 (.seq (.reg [] [.o 19 (.mv (.k 5)),
 .o 2 (.mv (.k 19)),
 .o 3 (.mv (.c (.b true)))] false [2,3] [])
 .ret))))))⟩

def F_pile_items_Len : F := ⟨1,[.inl 2],
 (.seq (.reg [.zz 0] [.o 2 (.mv (.c (.i .i64 0)))] false [0] [])
 (.seq (.reg [] [.o 3 (.mv (.k 0)),
 .o 4 (.len false (.k 3)),
 .o 2 (.mv (.k 4))] false [2] [])
 .ret))⟩

def F_pile_items_Less : F := ⟨3,[.inl 6],
 (.seq (.reg [.zz 0] [.o 6 (.mv (.c (.b false)))] false [0,1,2] [])
 (.seq (.reg [] [.o 7 (.mv (.t 0)),
 .u 8 (.mv (.k 1)) [0] 0,
 .o 9 (.ia 2 none (.k 7) (.k 8)),
 .o 10 (.ld true 2 .cp (.k 9)),
 .u 11 (.mv (.t 0)) [0,1,2,3] 0,
 .u 12 (.mv (.k 2)) [0,1,2,3,4] 0,
 .u 13 (.ia 2 none (.k 11) (.k 12)) [0,1,2,3] 0,
 .u 14 (.ld true 2 .cp (.k 13)) [0,1,2,3] 0,
 .o 15 (.call n_pile_Item_Cmp [.k 10,.k 14]),
 .o 16 (.bin .lss (.k 15) (.c (.i .i64 0))),
 .o 6 (.mv (.k 16))] true [6] [])
 .ret))⟩

def F_pile_items_Swap : F := ⟨3,[],
 (.reg [.thaw 0] [.o 6 (.mv (.t 0)),
 .u 7 (.mv (.t 1)) [0] 0,
 .u 8 (.mv (.t 0)) [0,1] 0,
 .u 9 (.mv (.t 2)) [0,1,2] 0,
 .u 10 (.mv (.t 0)) [0,1,2,3] 0,
 .u 11 (.mv (.t 2)) [0,1,2,3,4] 0,
 .u 12 (.ia 2 none (.k 10) (.k 11)) [0,1,2,3] 0,
 .u 13 (.ld true 2 .cp (.k 12)) [0,1,2,3] 0,
 .u 14 (.mv (.t 0)) [0,1,2,3,4,5,6,7] 0,
 .u 15 (.mv (.t 1)) [0,1,2,3,4,5,6,7,8] 0,
 .u 16 (.ia 2 none (.k 14) (.k 15)) [0,1,2,3,4,5,6,7] 0,
 .u 17 (.ld true 2 .cp (.k 16)) [0,1,2,3,4,5,6,7] 0,
 .u 18 (.ia 2 none (.k 6) (.k 7)) [2,3] 0,
 ⟨none,none,.st 2 (.k 18) (.k 13),[2,3],0⟩,
 .o 19 (.ia 2 none (.k 8) (.k 9)),
 .s (.st 2 (.k 19) (.k 17))] true [] [])⟩

def F_pile_items_Pop : F := ⟨1,[.inl 2],
 (.seq (.reg [] [.o 2 (.mv (.c (.nili)))] false [0] [])
 (.seq (.reg [] [.o 5 (.mv (.t 0)),
 .o 6 (.nc (.k 5)),
 .z 7 (.lda 1 (.k 6)) 1,
 .o 8 (.len false (.k 7)),
 .o 9 (.bin .sub (.k 8) (.c (.i .i64 1))),
 .o 3 (.mv (.k 9))] false [0,3] [])
 (.seq (.reg [] [.o 10 (.mv (.t 0)),
 .o 11 (.nc (.k 10)),
 .z 12 (.lda 1 (.k 11)) 1,
 .o 13 (.mv (.t 3)),
 .o 14 (.ia 2 none (.k 12) (.k 13)),
 .o 15 (.ld true 2 .cp (.k 14)),
 .o 4 (.al ([.f .f64 0,.i .i64 0])),
 .s (.st 2 (.t 4) (.k 15))] false [0,3,4] [4])
 (.seq (.reg [] [.o 16 (.mv (.t 0)),
 .o 17 (.mv (.k 0)),
 .o 18 (.nc (.k 17)),
 .o 19 (.ld false 1 .tk (.k 18)),
 .o 20 (.mv (.k 3)),
 .o 21 (.sl 2 (.k 19) none (some (.k 20)) none),
 .o 22 (.nc (.k 16)),
 .s (.st 1 (.k 22) (.k 21))] false [4] [4])
 (.seq (.reg [] [.o 23 (.ld true 2 .cp (.k 4)),
 .o 24 (.mi t_pile_Item (.k 23)),
 .o 2 (.mv (.k 24))] false [2] [])
 .ret)))))⟩

def F_pile_items_Len_q : F := ⟨1,[.inl 2],
 (.seq (.reg [] [.o 2 (.mv (.c (.i .i64 0)))] false [0] [])
 (.seq (.reg [] [.o 3 (.mv (.k 0)),
 .o 4 (.len false (.k 3)),
 .o 2 (.mv (.k 4))] false [2] [])
 .ret))⟩

def F_pile_items_Less_q : F := ⟨3,[.inl 6],
 (.seq (.reg [] [.o 6 (.mv (.c (.b false)))] false [0,1,2] [])
 (.seq (.reg [] [.o 7 (.mv (.t 0)),
 .u 8 (.mv (.k 1)) [0] 0,
 .o 9 (.ia 2 none (.k 7) (.k 8)),
 .o 10 (.ld true 2 .cp (.k 9)),
 .u 11 (.mv (.t 0)) [0,1,2,3] 0,
 .u 12 (.mv (.k 2)) [0,1,2,3,4] 0,
 .u 13 (.ia 2 none (.k 11) (.k 12)) [0,1,2,3] 0,
 .u 14 (.ld true 2 .cp (.k 13)) [0,1,2,3] 0,
 .o 15 (.call n_pile_Item_Cmp [.k 10,.k 14]),
 .o 16 (.bin .lss (.k 15) (.c (.i .i64 0))),
 .o 6 (.mv (.k 16))] true [6] [])
 .ret))⟩

def F_pile_items_Swap_q : F := ⟨3,[],
 (.reg [] [.o 6 (.mv (.t 0)),
 .u 7 (.mv (.t 1)) [0] 0,
 .u 8 (.mv (.t 0)) [0,1] 0,
 .u 9 (.mv (.t 2)) [0,1,2] 0,
 .u 10 (.mv (.t 0)) [0,1,2,3] 0,
 .u 11 (.mv (.t 2)) [0,1,2,3,4] 0,
 .u 12 (.ia 2 none (.k 10) (.k 11)) [0,1,2,3] 0,
 .u 13 (.ld true 2 .cp (.k 12)) [0,1,2,3] 0,
 .u 14 (.mv (.t 0)) [0,1,2,3,4,5,6,7] 0,
 .u 15 (.mv (.t 1)) [0,1,2,3,4,5,6,7,8] 0,
 .u 16 (.ia 2 none (.k 14) (.k 15)) [0,1,2,3,4,5,6,7] 0,
 .u 17 (.ld true 2 .cp (.k 16)) [0,1,2,3,4,5,6,7] 0,
 .u 18 (.ia 2 none (.k 6) (.k 7)) [2,3] 0,
 ⟨none,none,.st 2 (.k 18) (.k 13),[2,3],0⟩,
 .o 19 (.ia 2 none (.k 8) (.k 9)),
 .s (.st 2 (.k 19) (.k 17))] true [] [])⟩

end Go.AM

/- The table of the functions. -/
namespace Go.AM
set_option linter.unusedVariables false
def tab : List (Nat × F) := [(n_c_law22_UpgradeSame, F_c_law22_UpgradeSame), (n_c_ref21_Write, F_c_ref21_Write), (n_c_law17_Told, F_c_law17_Told), (n_c_law17_Make, F_c_law17_Make), (n_c_ref02_Seal, F_c_ref02_Seal), (n_elder_Read, F_elder_Read), (n_elder_Write, F_elder_Write), (n_image_Image_Value, F_image_Image_Value), (n_value_Value_Same, F_value_Value_Same), (n_c_law22_awake, F_c_law22_awake), (n_upgrade_All, F_upgrade_All), (n_upgrade_Step, F_upgrade_Step), (n_file_Decode, F_file_Decode), (n_elder_Version, F_elder_Version), (n_c_ref01_Num2, F_c_ref01_Num2), (n_c_ref17_Value, F_c_ref17_Value), (n_c_ref01_Fixed, F_c_ref01_Fixed), (n_c_ref01_Int, F_c_ref01_Int), (n_c_ref19_Meta, F_c_ref19_Meta), (n_c_ref19_Data, F_c_ref19_Data), (n_c_ref20_Encode, F_c_ref20_Encode), (n_c_law04_Bits, F_c_law04_Bits), (n_c_law12_Kind, F_c_law12_Kind), (n_c_law04_Own, F_c_law04_Own), (n_pile_Item_Canon, F_pile_Item_Canon), (n_c_law17_sorted, F_c_law17_sorted), (n_c_ref02_Word, F_c_ref02_Word), (n_c_ref02_Sum, F_c_ref02_Sum), (n_elder_read, F_elder_read), (n_image_Image_Check, F_image_Image_Check), (n_elder_one, F_elder_one), (n_crc_Make, F_crc_Make), (n_crc_Table_Seal, F_crc_Table_Seal), (n_elder_two, F_elder_two), (n_elder_three, F_elder_three), (n_file_Encode, F_file_Encode), (n_pile_Sorted, F_pile_Sorted), (n_slices_EqualFunc_pile_Item_pile_Item_pile_Item_pile_Item_1, F_slices_EqualFunc_pile_Item_pile_Item_pile_Item_pile_Item_1), (n_value_Value_Same_1, F_value_Value_Same_1), (n_pile_Item_Cmp, F_pile_Item_Cmp), (n_file_reader_begin, F_file_reader_begin), (n_file_reader_sections, F_file_reader_sections), (n_section_Read, F_section_Read), (n_strings_HasPrefix, F_strings_HasPrefix), (n_c_ref04_With, F_c_ref04_With), (n_c_ref19_Items, F_c_ref19_Items), (n_c_ref20_word, F_c_ref20_word), (n_c_ref20_entry, F_c_ref20_entry), (n_c_ref03_Bits, F_c_ref03_Bits), (n_c_law03_F, F_c_law03_F), (n_real_Canon, F_real_Canon), (n_c_ref02_Bits, F_c_ref02_Bits), (n_crc_Table_Open, F_crc_Table_Open), (n_elder_parse, F_elder_parse), (n_op_Legal, F_op_Legal), (n_image_Shape, F_image_Shape), (n_image_order, F_image_order), (n_octet_Num, F_octet_Num), (n_octet_Long, F_octet_Long), (n_octet_Word, F_octet_Word), (n_crc_Table_Sum, F_crc_Table_Sum), (n_octet_Int, F_octet_Int), (n_section_Of, F_section_Of), (n_pile_New, F_pile_New), (n_pile_Pile_All, F_pile_Pile_All), (n_real_Cmp, F_real_Cmp), (n_octet_Of, F_octet_Of), (n_octet_In_Bytes, F_octet_In_Bytes), (n_octet_In_Byte, F_octet_In_Byte), (n_octet_In_Word, F_octet_In_Word), (n_octet_In_Err, F_octet_In_Err), (n_octet_In_Num, F_octet_In_Num), (n_octet_In_End, F_octet_In_End), (n_section_read, F_section_read), (n_internal_stringslite_HasPrefix, F_internal_stringslite_HasPrefix), (n_c_ref04_Cmp, F_c_ref04_Cmp), (n_c_ref03_Key, F_c_ref03_Key), (n_op_Of, F_op_Of), (n_elder_third, F_elder_third), (n_elder_first, F_elder_first), (n_elder_second, F_elder_second), (n_octet_fixed_uint64, F_octet_fixed_uint64), (n_octet_fixed_uint32, F_octet_fixed_uint32), (n_crc_Table_More, F_crc_Table_More), (n_section_meta, F_section_meta), (n_section_data, F_section_data), (n_container_heap_Init, F_container_heap_Init), (n_pile_Pile_Take, F_pile_Pile_Take), (n_real_Key, F_real_Key), (n_octet_In_fail, F_octet_In_fail), (n_section_take, F_section_take), (n_c_ref03_Cmp, F_c_ref03_Cmp), (n_elder_flat, F_elder_flat), (n_spread_Deal, F_spread_Deal), (n_elder_total, F_elder_total), (n_wire_Even, F_wire_Even), (n_octet_In_Long, F_octet_In_Long), (n_elder_item, F_elder_item), (n_octet_In_Int, F_octet_In_Int), (n_section_Items, F_section_Items), (n_container_heap_down, F_container_heap_down), (n_container_heap_Pop, F_container_heap_Pop), (n_real_Back, F_real_Back), (n_pile_items_Len, F_pile_items_Len), (n_pile_items_Less, F_pile_items_Less), (n_pile_items_Swap, F_pile_items_Swap), (n_pile_items_Pop, F_pile_items_Pop), (n_pile_items_Len_q, F_pile_items_Len_q), (n_pile_items_Less_q, F_pile_items_Less_q), (n_pile_items_Swap_q, F_pile_items_Swap_q)]
def methL : List (TypeId × String × FuncId) := [(t_pile_Item, "Canon", n_pile_Item_Canon), (t_pile_Item, "Cmp", n_pile_Item_Cmp), (t_pile_items_u, "Len", n_pile_items_Len_q), (t_pile_items_u, "Less", n_pile_items_Less_q), (t_pile_items_u, "Pop", n_pile_items_Pop), (t_pile_items_u, "Swap", n_pile_items_Swap_q)]
def EE : En := ⟨fun f => look f tab, some 68, some 103, fun t nm => (methL.find? fun p => p.1 == t && p.2.1 == nm).map (·.2.2)⟩
theorem e_c_law22_UpgradeSame : EE.fn n_c_law22_UpgradeSame = some F_c_law22_UpgradeSame := by kernel_rfl
theorem e_c_ref21_Write : EE.fn n_c_ref21_Write = some F_c_ref21_Write := by kernel_rfl
theorem e_c_law17_Told : EE.fn n_c_law17_Told = some F_c_law17_Told := by kernel_rfl
theorem e_c_law17_Make : EE.fn n_c_law17_Make = some F_c_law17_Make := by kernel_rfl
theorem e_c_ref02_Seal : EE.fn n_c_ref02_Seal = some F_c_ref02_Seal := by kernel_rfl
theorem e_elder_Read : EE.fn n_elder_Read = some F_elder_Read := by kernel_rfl
theorem e_elder_Write : EE.fn n_elder_Write = some F_elder_Write := by kernel_rfl
theorem e_image_Image_Value : EE.fn n_image_Image_Value = some F_image_Image_Value := by kernel_rfl
theorem e_value_Value_Same : EE.fn n_value_Value_Same = some F_value_Value_Same := by kernel_rfl
theorem e_c_law22_awake : EE.fn n_c_law22_awake = some F_c_law22_awake := by kernel_rfl
theorem e_upgrade_All : EE.fn n_upgrade_All = some F_upgrade_All := by kernel_rfl
theorem e_upgrade_Step : EE.fn n_upgrade_Step = some F_upgrade_Step := by kernel_rfl
theorem e_file_Decode : EE.fn n_file_Decode = some F_file_Decode := by kernel_rfl
theorem e_elder_Version : EE.fn n_elder_Version = some F_elder_Version := by kernel_rfl
theorem e_c_ref01_Num2 : EE.fn n_c_ref01_Num2 = some F_c_ref01_Num2 := by kernel_rfl
theorem e_c_ref17_Value : EE.fn n_c_ref17_Value = some F_c_ref17_Value := by kernel_rfl
theorem e_c_ref01_Fixed : EE.fn n_c_ref01_Fixed = some F_c_ref01_Fixed := by kernel_rfl
theorem e_c_ref01_Int : EE.fn n_c_ref01_Int = some F_c_ref01_Int := by kernel_rfl
theorem e_c_ref19_Meta : EE.fn n_c_ref19_Meta = some F_c_ref19_Meta := by kernel_rfl
theorem e_c_ref19_Data : EE.fn n_c_ref19_Data = some F_c_ref19_Data := by kernel_rfl
theorem e_c_ref20_Encode : EE.fn n_c_ref20_Encode = some F_c_ref20_Encode := by kernel_rfl
theorem e_c_law04_Bits : EE.fn n_c_law04_Bits = some F_c_law04_Bits := by kernel_rfl
theorem e_c_law12_Kind : EE.fn n_c_law12_Kind = some F_c_law12_Kind := by kernel_rfl
theorem e_c_law04_Own : EE.fn n_c_law04_Own = some F_c_law04_Own := by kernel_rfl
theorem e_pile_Item_Canon : EE.fn n_pile_Item_Canon = some F_pile_Item_Canon := by kernel_rfl
theorem e_c_law17_sorted : EE.fn n_c_law17_sorted = some F_c_law17_sorted := by kernel_rfl
theorem e_c_ref02_Word : EE.fn n_c_ref02_Word = some F_c_ref02_Word := by kernel_rfl
theorem e_c_ref02_Sum : EE.fn n_c_ref02_Sum = some F_c_ref02_Sum := by kernel_rfl
theorem e_elder_read : EE.fn n_elder_read = some F_elder_read := by kernel_rfl
theorem e_image_Image_Check : EE.fn n_image_Image_Check = some F_image_Image_Check := by kernel_rfl
theorem e_elder_one : EE.fn n_elder_one = some F_elder_one := by kernel_rfl
theorem e_crc_Make : EE.fn n_crc_Make = some F_crc_Make := by kernel_rfl
theorem e_crc_Table_Seal : EE.fn n_crc_Table_Seal = some F_crc_Table_Seal := by kernel_rfl
theorem e_elder_two : EE.fn n_elder_two = some F_elder_two := by kernel_rfl
theorem e_elder_three : EE.fn n_elder_three = some F_elder_three := by kernel_rfl
theorem e_file_Encode : EE.fn n_file_Encode = some F_file_Encode := by kernel_rfl
theorem e_pile_Sorted : EE.fn n_pile_Sorted = some F_pile_Sorted := by kernel_rfl
theorem e_slices_EqualFunc_pile_Item_pile_Item_pile_Item_pile_Item_1 : EE.fn n_slices_EqualFunc_pile_Item_pile_Item_pile_Item_pile_Item_1 = some F_slices_EqualFunc_pile_Item_pile_Item_pile_Item_pile_Item_1 := by kernel_rfl
theorem e_value_Value_Same_1 : EE.fn n_value_Value_Same_1 = some F_value_Value_Same_1 := by kernel_rfl
theorem e_pile_Item_Cmp : EE.fn n_pile_Item_Cmp = some F_pile_Item_Cmp := by kernel_rfl
theorem e_file_reader_begin : EE.fn n_file_reader_begin = some F_file_reader_begin := by kernel_rfl
theorem e_file_reader_sections : EE.fn n_file_reader_sections = some F_file_reader_sections := by kernel_rfl
theorem e_section_Read : EE.fn n_section_Read = some F_section_Read := by kernel_rfl
theorem e_strings_HasPrefix : EE.fn n_strings_HasPrefix = some F_strings_HasPrefix := by kernel_rfl
theorem e_c_ref04_With : EE.fn n_c_ref04_With = some F_c_ref04_With := by kernel_rfl
theorem e_c_ref19_Items : EE.fn n_c_ref19_Items = some F_c_ref19_Items := by kernel_rfl
theorem e_c_ref20_word : EE.fn n_c_ref20_word = some F_c_ref20_word := by kernel_rfl
theorem e_c_ref20_entry : EE.fn n_c_ref20_entry = some F_c_ref20_entry := by kernel_rfl
theorem e_c_ref03_Bits : EE.fn n_c_ref03_Bits = some F_c_ref03_Bits := by kernel_rfl
theorem e_c_law03_F : EE.fn n_c_law03_F = some F_c_law03_F := by kernel_rfl
theorem e_real_Canon : EE.fn n_real_Canon = some F_real_Canon := by kernel_rfl
theorem e_c_ref02_Bits : EE.fn n_c_ref02_Bits = some F_c_ref02_Bits := by kernel_rfl
theorem e_crc_Table_Open : EE.fn n_crc_Table_Open = some F_crc_Table_Open := by kernel_rfl
theorem e_elder_parse : EE.fn n_elder_parse = some F_elder_parse := by kernel_rfl
theorem e_op_Legal : EE.fn n_op_Legal = some F_op_Legal := by kernel_rfl
theorem e_image_Shape : EE.fn n_image_Shape = some F_image_Shape := by kernel_rfl
theorem e_image_order : EE.fn n_image_order = some F_image_order := by kernel_rfl
theorem e_octet_Num : EE.fn n_octet_Num = some F_octet_Num := by kernel_rfl
theorem e_octet_Long : EE.fn n_octet_Long = some F_octet_Long := by kernel_rfl
theorem e_octet_Word : EE.fn n_octet_Word = some F_octet_Word := by kernel_rfl
theorem e_crc_Table_Sum : EE.fn n_crc_Table_Sum = some F_crc_Table_Sum := by kernel_rfl
theorem e_octet_Int : EE.fn n_octet_Int = some F_octet_Int := by kernel_rfl
theorem e_section_Of : EE.fn n_section_Of = some F_section_Of := by kernel_rfl
theorem e_pile_New : EE.fn n_pile_New = some F_pile_New := by kernel_rfl
theorem e_pile_Pile_All : EE.fn n_pile_Pile_All = some F_pile_Pile_All := by kernel_rfl
theorem e_real_Cmp : EE.fn n_real_Cmp = some F_real_Cmp := by kernel_rfl
theorem e_octet_Of : EE.fn n_octet_Of = some F_octet_Of := by kernel_rfl
theorem e_octet_In_Bytes : EE.fn n_octet_In_Bytes = some F_octet_In_Bytes := by kernel_rfl
theorem e_octet_In_Byte : EE.fn n_octet_In_Byte = some F_octet_In_Byte := by kernel_rfl
theorem e_octet_In_Word : EE.fn n_octet_In_Word = some F_octet_In_Word := by kernel_rfl
theorem e_octet_In_Err : EE.fn n_octet_In_Err = some F_octet_In_Err := by kernel_rfl
theorem e_octet_In_Num : EE.fn n_octet_In_Num = some F_octet_In_Num := by kernel_rfl
theorem e_octet_In_End : EE.fn n_octet_In_End = some F_octet_In_End := by kernel_rfl
theorem e_section_read : EE.fn n_section_read = some F_section_read := by kernel_rfl
theorem e_internal_stringslite_HasPrefix : EE.fn n_internal_stringslite_HasPrefix = some F_internal_stringslite_HasPrefix := by kernel_rfl
theorem e_c_ref04_Cmp : EE.fn n_c_ref04_Cmp = some F_c_ref04_Cmp := by kernel_rfl
theorem e_c_ref03_Key : EE.fn n_c_ref03_Key = some F_c_ref03_Key := by kernel_rfl
theorem e_op_Of : EE.fn n_op_Of = some F_op_Of := by kernel_rfl
theorem e_elder_third : EE.fn n_elder_third = some F_elder_third := by kernel_rfl
theorem e_elder_first : EE.fn n_elder_first = some F_elder_first := by kernel_rfl
theorem e_elder_second : EE.fn n_elder_second = some F_elder_second := by kernel_rfl
theorem e_octet_fixed_uint64 : EE.fn n_octet_fixed_uint64 = some F_octet_fixed_uint64 := by kernel_rfl
theorem e_octet_fixed_uint32 : EE.fn n_octet_fixed_uint32 = some F_octet_fixed_uint32 := by kernel_rfl
theorem e_crc_Table_More : EE.fn n_crc_Table_More = some F_crc_Table_More := by kernel_rfl
theorem e_section_meta : EE.fn n_section_meta = some F_section_meta := by kernel_rfl
theorem e_section_data : EE.fn n_section_data = some F_section_data := by kernel_rfl
theorem e_container_heap_Init : EE.fn n_container_heap_Init = some F_container_heap_Init := by kernel_rfl
theorem e_pile_Pile_Take : EE.fn n_pile_Pile_Take = some F_pile_Pile_Take := by kernel_rfl
theorem e_real_Key : EE.fn n_real_Key = some F_real_Key := by kernel_rfl
theorem e_octet_In_fail : EE.fn n_octet_In_fail = some F_octet_In_fail := by kernel_rfl
theorem e_section_take : EE.fn n_section_take = some F_section_take := by kernel_rfl
theorem e_c_ref03_Cmp : EE.fn n_c_ref03_Cmp = some F_c_ref03_Cmp := by kernel_rfl
theorem e_elder_flat : EE.fn n_elder_flat = some F_elder_flat := by kernel_rfl
theorem e_spread_Deal : EE.fn n_spread_Deal = some F_spread_Deal := by kernel_rfl
theorem e_elder_total : EE.fn n_elder_total = some F_elder_total := by kernel_rfl
theorem e_wire_Even : EE.fn n_wire_Even = some F_wire_Even := by kernel_rfl
theorem e_octet_In_Long : EE.fn n_octet_In_Long = some F_octet_In_Long := by kernel_rfl
theorem e_elder_item : EE.fn n_elder_item = some F_elder_item := by kernel_rfl
theorem e_octet_In_Int : EE.fn n_octet_In_Int = some F_octet_In_Int := by kernel_rfl
theorem e_section_Items : EE.fn n_section_Items = some F_section_Items := by kernel_rfl
theorem e_container_heap_down : EE.fn n_container_heap_down = some F_container_heap_down := by kernel_rfl
theorem e_container_heap_Pop : EE.fn n_container_heap_Pop = some F_container_heap_Pop := by kernel_rfl
theorem e_real_Back : EE.fn n_real_Back = some F_real_Back := by kernel_rfl
theorem e_pile_items_Pop : EE.fn n_pile_items_Pop = some F_pile_items_Pop := by kernel_rfl
theorem e_pile_items_Len_q : EE.fn n_pile_items_Len_q = some F_pile_items_Len_q := by kernel_rfl
theorem e_pile_items_Less_q : EE.fn n_pile_items_Less_q = some F_pile_items_Less_q := by kernel_rfl
theorem e_pile_items_Swap_q : EE.fn n_pile_items_Swap_q = some F_pile_items_Swap_q := by kernel_rfl
end Go.AM
